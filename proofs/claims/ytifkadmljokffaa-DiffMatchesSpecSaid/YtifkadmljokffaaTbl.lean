/- A table in memory: a row of rows of numbers. -/
import Derived.Test.YtifkadmljokffaaLcs
import Derived.Test.YtifkadmljokffaaWApart
import Derived.Test.YtifkadmljokffaaWMore
set_option linter.unusedVariables false
namespace Go.Proofs.Ytifkadmljokffaa.Pre
open Go.RowKit Go.Proofs.YtifkadmljokffaaW.PrintWords Go.Proofs.YtifkadmljokffaaW.PrintMore

section
variable {W : World} {base g n cap e e1 : Nat} {ok : Nat → Prop} {xs : List (List Int)}
/-- Row i: where it lies, what it holds, and what a store into it leaves. -/
theorem tab_get (h : Kd.S (Kd.slice e (Kd.int .i64)) e1 W base ok (.slice (some ⟨g, 0, none⟩) n cap) xs) (i : Nat) (hi : i < n) (hp : 0 < (xs.getD i []).length) :
    ∃ gi ci, W.cell? ⟨g, i, none⟩ = some (.slice (some ⟨gi, 0, none⟩) (xs.getD i []).length ci) ∧ (xs.getD i []).length ≤ ci ∧ base ≤ gi ∧
      (∀ j : Nat, j < (xs.getD i []).length → W.cell? ⟨gi, j, none⟩ = some (.int .i64 (rd (xs.getD i []) j)) ∧ W.frozen? ⟨gi, j, none⟩ = false) ∧
      ∀ (j : Nat) (x : Int), Kd.S (Kd.slice e (Kd.int .i64)) e1 (W.setCell ⟨gi, j, none⟩ (.int .i64 x)) base ok (.slice (some ⟨g, 0, none⟩) n cap) (xs.set i ((xs.getD i []).set j x)) := by
  obtain ⟨oki, c, hcl, hM, hcc, hoki, hb⟩ := Kd.S_borrow h [] (i : Int) (by omega) (by omega)
  rw [Int.toNat_natCast] at hM hcc hb
  generalize xs.getD i [] = row at *
  obtain ⟨v, rfl, hR⟩ := hM
  obtain ⟨gi, ci, rfl, hgb, hgl, cells, hcells⟩ := Kd.R_form hR hp
  obtain ⟨_, hlc, _⟩ := Kd.R_reads' hR
  have hc0 := hcc 0 _ rfl
  have hsz : (Kd.slice e (Kd.int .i64)).sz = 1 := rfl
  rw [hsz, Nat.mul_one, Nat.add_zero] at hc0
  refine ⟨gi, ci, ?_, hlc, hgb, fun j hj => ?_, fun j x => ?_⟩
  · have : (⟨g, 0, none⟩ : Addr).add i = ⟨g, i, none⟩ := by simp [Addr.add]; omega
    rwa [this] at hc0
  · obtain ⟨c', k1, k2, k3, k4⟩ := Kd.R_elem hR 0 (j : Int) (by omega) (by omega)
    have h1 : (Kd.int .i64).sz = 1 := rfl
    rw [Int.toNat_natCast, h1, Nat.mul_one] at k3 k4
    refine ⟨?_, k4 0⟩
    have e1 : c' = [.int .i64 (row.getD (j : Int).toNat 0)] := k2
    subst e1
    exact k3 0 _ rfl
  · obtain ⟨r1, r2⟩ := Kd.R_putg hR (j : Int) x
    rw [Int.toNat_natCast] at r1 r2
    exact hb r2 (fun k hk => hR.1 k hk) ⟨_, rfl, r1⟩
/-- Row i's cell may be read and written. -/
theorem tab_cell (h : Kd.S (Kd.slice e (Kd.int .i64)) e1 W base ok (.slice (some ⟨g, 0, none⟩) n cap) xs) (i : Nat) (hi : i < n) : ∃ A c, W.cell? ⟨g, i, none⟩ = some (.slice A (xs.getD i []).length c) ∧ W.frozen? ⟨g, i, none⟩ = false := by
  obtain ⟨oki, c, hcl, hM, hcc, hfr, hoki, hH⟩ := Kd.S_elem h [] (i : Int) (by omega) (by omega)
  have hsz : (Kd.slice e (Kd.int .i64)).sz = 1 := rfl
  rw [Int.toNat_natCast] at hM hcc hfr
  rw [hsz, Nat.mul_one] at hcc hfr
  generalize xs.getD i [] = row at *
  obtain ⟨v, rfl, hR⟩ := hM
  obtain ⟨A, c', rfl⟩ := Kd.R_slice hR
  exact ⟨A, c', hcc 0 _ rfl, hfr 0⟩
/-- A row of its own is stored as row i. -/
theorem tab_put {v : Value} {row : List Int} (h : Kd.S (Kd.slice e (Kd.int .i64)) e1 W base (fun k => ok k ∧ some k ≠ v.ownBlock) (.slice (some ⟨g, 0, none⟩) n cap) xs) (hr : (Kd.int .i64).R e W base ok v row) (hg : some g ≠ v.ownBlock) (i : Nat) (hi : i < n) :
    Kd.S (Kd.slice e (Kd.int .i64)) e1 (W.setCell ⟨g, i, none⟩ v) base ok (.slice (some ⟨g, 0, none⟩) n cap) (xs.set i row) := by
  obtain ⟨oki, c, hcl, hM, hcc, hfr, hoki, hH⟩ := Kd.S_elem h [] (i : Int) (by omega) (by omega)
  have := (Kd.S_seg (okg := fun k => some k = v.ownBlock) hH (by omega) (by omega) (seg := [v]) (j := 0) (Nat.le_refl _) (x' := row) (okp := fun k => some k = v.ownBlock)
    (by
      have e0 : c.take 0 ++ [v] ++ c.drop (0 + [v].length) = [v] := by
        rw [List.drop_of_length_le (by rw [hcl]; exact Nat.le_refl _)]; rfl
      rw [e0]
      exact ⟨v, rfl, Kd.R_tight rfl hr⟩) (fun k hk => .inr hk) (fun k hk => ⟨hr.1 k hk.symm, fun he => hg (by rw [← he]; exact hk)⟩)).1
  rw [Int.toNat_natCast] at this
  have hsz : (Kd.slice e (Kd.int .i64)).sz = 1 := rfl
  rw [hsz, Nat.mul_one, Nat.add_zero] at this
  exact this
end
/-- The table while its rows are being made: i rows are there. -/
def rows1 (m n i : Nat) : List (List Int) := (List.range (m + 1)).map fun p => if p < i then List.replicate (n + 1) 0 else []
theorem rows1_length (m n i : Nat) : (rows1 m n i).length = m + 1 := by simp [rows1]
theorem rows1_zero (m n : Nat) : rows1 m n 0 = List.replicate (m + 1) [] := by unfold rows1; simp [range_const]
theorem rows1_set (m n i : Nat) : (rows1 m n i).set i (List.replicate (n + 1) 0) = rows1 m n (i + 1) := by
  unfold rows1
  rw [range_set]
  refine range_congr _ (fun p hp => ?_)
  by_cases e : p = i
  · subst e; rw [if_pos rfl, if_pos (by omega)]
  · rw [if_neg e]
    by_cases c : p < i
    · rw [if_pos c, if_pos (by omega)]
    · rw [if_neg c, if_neg (by omega)]
theorem rows1_full (m n : Nat) : rows1 m n (m + 1) = tab m n (fun _ _ => 0) := by
  unfold rows1 tab
  refine range_congr _ (fun p hp => ?_)
  rw [if_pos hp, range_const]
theorem tab_made {w : World} {base e e1 : Nat} {ok : Nat → Prop} {v : Value} (m n : Nat) (h : Kd.S (Kd.slice e (Kd.int .i64)) e1 w base ok v (List.replicate ((m : Int) + 1).toNat [])) :
    ∃ g cap, v = .slice (some ⟨g, 0, none⟩) (m + 1) cap ∧ base ≤ g ∧ Kd.S (Kd.slice e (Kd.int .i64)) e1 w base ok (.slice (some ⟨g, 0, none⟩) (m + 1) cap) (rows1 m n 0) := by
  rw [show ((m : Int) + 1).toNat = m + 1 by omega, ← rows1_zero m n] at h
  obtain ⟨g, cap, hv, hb, _⟩ := Kd.S_form h (by rw [rows1_length]; omega)
  rw [rows1_length] at hv
  subst hv
  exact ⟨g, cap, rfl, hb, h⟩
theorem row_made {w : World} {base e : Nat} {ok : Nat → Prop} {v : Value} (n : Nat) (h : (Kd.int .i64).R e w base ok v (List.replicate ((n : Int) + 1).toNat 0)) :
    ∃ g cap, v = .slice (some ⟨g, 0, none⟩) (n + 1) cap ∧ base ≤ g ∧ (Kd.int .i64).R e w base ok (.slice (some ⟨g, 0, none⟩) (n + 1) cap) (List.replicate (n + 1) 0) := by
  rw [show ((n : Int) + 1).toNat = n + 1 by omega] at h
  obtain ⟨g, cap, hv, hb, _⟩ := Kd.R_form h (by simp)
  rw [List.length_replicate] at hv
  subst hv
  exact ⟨g, cap, rfl, hb, h⟩
theorem tab_newrow {w wr w2 : World} {e e1 g m n cap : Nat} {v : Value} {xs : List (List Int)} (HS : Kd.S (Kd.slice e (Kd.int .i64)) e1 wr w.heap.size (fun _ => True) (.slice (some ⟨g, 0, none⟩) (m + 1) cap) xs) (HB : Below w.heap.size w wr) (hgb : w.heap.size ≤ g) (hb : Below wr.heap.size wr w2)
    (ho : (Kd.int .i64).R e w2 wr.heap.size (fun _ => True) v (List.replicate ((n : Int) + 1).toNat 0)) (i : Nat) (hi : i < m + 1) :
    ∃ g2 cap2 A c, v = .slice (some ⟨g2, 0, none⟩) (n + 1) cap2 ∧ w2.cell? ⟨g, i, none⟩ = some (.slice A (xs.getD i []).length c) ∧ w2.frozen? ⟨g, i, none⟩ = false ∧
      Kd.S (Kd.slice e (Kd.int .i64)) e1 (w2.setCell ⟨g, i, none⟩ v) w.heap.size (fun _ => True) (.slice (some ⟨g, 0, none⟩) (m + 1) cap) (xs.set i (List.replicate (n + 1) 0)) ∧ Below w.heap.size w (w2.setCell ⟨g, i, none⟩ v) := by
  obtain ⟨g2, cap2, rfl, hgb2, hR2⟩ := row_made n ho
  have hS2 := Kd.S_elder' (v := .slice (some ⟨g2, 0, none⟩) (n + 1) cap2) HS (fun k hk => by simp [Value.ownBlock] at hk; omega) hb
  have hlt := Kd.S_lt HS g (by simp [Value.ownBlock])
  obtain ⟨A, c, hcell, hfr⟩ := tab_cell hS2 i hi
  exact ⟨g2, cap2, A, c, rfl, hcell, hfr, tab_put hS2 (Kd.R_lower hR2 HB.size) (by simp [Value.ownBlock]; omega) i hi, (HB.trans (hb.mono HB.size)).setCell (p := ⟨g, i, none⟩) hgb _⟩
/-- A full table: row p, its cells, and what a store leaves. -/
theorem tab_fget {W : World} {base g m n cap e e1 : Nat} {ok : Nat → Prop} {f : Nat → Nat → Int} (h : Kd.S (Kd.slice e (Kd.int .i64)) e1 W base ok (.slice (some ⟨g, 0, none⟩) (m + 1) cap) (tab m n f)) (p : Nat) (hp : p ≤ m) :
    ∃ gp cp, W.cell? ⟨g, p, none⟩ = some (.slice (some ⟨gp, 0, none⟩) (n + 1) cp) ∧ n + 1 ≤ cp ∧ base ≤ gp ∧
      (∀ q : Nat, q ≤ n → W.cell? ⟨gp, q, none⟩ = some (.int .i64 (f p q)) ∧ W.frozen? ⟨gp, q, none⟩ = false) ∧
      ∀ (q : Nat) (x : Int), Kd.S (Kd.slice e (Kd.int .i64)) e1 (W.setCell ⟨gp, q, none⟩ (.int .i64 x)) base ok (.slice (some ⟨g, 0, none⟩) (m + 1) cap) (tab m n (fun p' q' => if p' = p ∧ q' = q then x else f p' q')) := by
  have hr := tab_row m n f p hp
  have hl : ((tab m n f).getD p []).length = n + 1 := by rw [hr]; simp
  obtain ⟨gp, cp, h1, h2, h3, h4, h5⟩ := tab_get h p (by omega) (by omega)
  rw [hl] at h1 h2 h4
  refine ⟨gp, cp, h1, h2, h3, fun q hq => ?_, fun q x => ?_⟩
  · have := h4 q (by omega)
    rwa [tab_rd m n f p q hp hq] at this
  · have := h5 q x
    rwa [hr, tab_set] at this
/-- The lengths of the longest common subsequences, from some place on. -/
def lcsAt (a b : List ByteArray) (p q : Nat) : Int := (lcs (a.drop p) (b.drop q) : Nat)
def lcsFrom (a b : List ByteArray) (i j : Nat) : Nat → Nat → Int := fun p q => if i < p ∨ (p = i ∧ j ≤ q) then lcsAt a b p q else 0
theorem lcsFrom_at (a b : List ByteArray) {i j p q : Nat} (h : i < p ∨ (p = i ∧ j ≤ q)) : lcsFrom a b i j p q = lcsAt a b p q := if_pos h
theorem lcsAt_end_l (a b : List ByteArray) (q : Nat) : lcsAt a b a.length q = 0 := by unfold lcsAt; rw [List.drop_length, lcs_nil_l]; rfl
theorem lcsAt_end_r (a b : List ByteArray) (p : Nat) : lcsAt a b p b.length = 0 := by unfold lcsAt; rw [List.drop_length, lcs_nil_r]; rfl
theorem lcsFrom_start (a b : List ByteArray) : tab a.length b.length (fun _ _ => 0) = tab a.length b.length (lcsFrom a b a.length 0) :=
  tab_congr (fun p q hp hq => by
    unfold lcsFrom
    split
    · obtain rfl : p = a.length := by omega
      exact (lcsAt_end_l a b q).symm
    · rfl)
theorem lcsFrom_row (a b : List ByteArray) (i : Nat) : tab a.length b.length (lcsFrom a b (i + 1) 0) = tab a.length b.length (lcsFrom a b i b.length) :=
  tab_congr (fun p q hp hq => by
    unfold lcsFrom
    by_cases c : i + 1 ≤ p
    · rw [if_pos (by omega), if_pos (by omega)]
    · rw [if_neg (by omega)]
      split
      · obtain rfl : q = b.length := by omega
        exact (lcsAt_end_r a b p).symm
      · rfl)
theorem lcsFrom_full (a b : List ByteArray) : tab a.length b.length (lcsFrom a b 0 0) = lcsTab a b := by
  unfold lcsTab
  refine tab_congr (fun p q hp hq => ?_)
  rw [lcsFrom_at a b (by omega)]
  rfl
theorem lcsFrom_set (a b : List ByteArray) (i j : Nat) : (fun p q => if p = i ∧ q = j then lcsAt a b i j else lcsFrom a b i (j + 1) p q) = lcsFrom a b i j := by
  funext p q
  unfold lcsFrom
  by_cases c : p = i ∧ q = j
  · rw [if_pos c, if_pos (by omega), c.1, c.2]
  · rw [if_neg c]
    by_cases d : i < p ∨ (p = i ∧ j + 1 ≤ q)
    · rw [if_pos d, if_pos (by omega)]
    · rw [if_neg d, if_neg (by omega)]
theorem lcsAt_step (a b : List ByteArray) (p q : Nat) (hp : p < a.length) (hq : q < b.length) : lcsAt a b p q = if (rdOf ByteArray.empty a (p : Int)).toList = (rdOf ByteArray.empty b (q : Int)).toList then lcsAt a b (p + 1) (q + 1) + 1 else mx (lcsAt a b (p + 1) q) (lcsAt a b p (q + 1)) := lcs_drop a b p q hp hq
theorem lcsAt_range (a b : List ByteArray) (p q : Nat) : 0 ≤ lcsAt a b p q ∧ lcsAt a b p q ≤ a.length := by
  have := (lcs_le (a.drop p) (b.drop q)).1
  rw [List.length_drop] at this
  unfold lcsAt
  omega
end Go.Proofs.Ytifkadmljokffaa.Pre
