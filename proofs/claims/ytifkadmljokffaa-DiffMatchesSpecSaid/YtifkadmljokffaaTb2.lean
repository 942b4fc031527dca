/- A table in memory whose rows are made one by one, from the last one on. -/
import Derived.Test.YtifkadmljokffaaTbl
set_option linter.unusedVariables false
namespace Go.Proofs.Ytifkadmljokffaa.Pre
open Go.RowKit Go.Proofs.YtifkadmljokffaaW.PrintWords Go.Proofs.YtifkadmljokffaaW.PrintMore
/-- A table of m + 1 rows of n + 1 numbers, of which the rows below i are not there yet. -/
def tabI (m n i : Nat) (f : Nat → Nat → Int) : List (List Int) := (List.range (m + 1)).map fun p => if p < i then [] else (List.range (n + 1)).map (f p)
theorem tabI_length (m n i : Nat) (f : Nat → Nat → Int) : (tabI m n i f).length = m + 1 := by simp [tabI]
theorem tabI_zero (m n : Nat) (f : Nat → Nat → Int) : tabI m n 0 f = tab m n f := range_congr _ (fun p _ => if_neg (by omega))
theorem tabI_start (m n : Nat) (f : Nat → Nat → Int) : tabI m n (m + 1) f = rows1 m n 0 := by
  rw [rows1_zero, ← range_const]
  exact range_congr _ (fun p hp => if_pos hp)
theorem tabI_row (m n i : Nat) (f : Nat → Nat → Int) (p : Nat) (h0 : i ≤ p) (h : p ≤ m) : (tabI m n i f).getD p [] = (List.range (n + 1)).map (f p) := by
  unfold tabI
  rw [range_getD _ _ _ _ (by omega), if_neg (by omega)]
theorem tabI_congr {m n i : Nat} {f g : Nat → Nat → Int} (h : ∀ p q, i ≤ p → p ≤ m → q ≤ n → f p q = g p q) : tabI m n i f = tabI m n i g :=
  range_congr _ (fun p hp => by
    by_cases c : p < i
    · rw [if_pos c, if_pos c]
    · rw [if_neg c, if_neg c]
      exact range_congr _ (fun q hq => h p q (by omega) (by omega) (by omega)))
theorem tabI_set (m n k : Nat) (f : Nat → Nat → Int) (i j : Nat) (v : Int) (hk : k ≤ i) : (tabI m n k f).set i (((List.range (n + 1)).map (f i)).set j v) = tabI m n k (fun p q => if p = i ∧ q = j then v else f p q) := by
  unfold tabI
  rw [range_set, range_set]
  refine range_congr _ (fun p hp => ?_)
  by_cases e : p = i
  · subst e; rw [if_pos rfl, if_neg (by omega)]; exact range_congr _ (fun q hq => by simp)
  · rw [if_neg e]
    by_cases c : p < k
    · rw [if_pos c, if_pos c]
    · rw [if_neg c, if_neg c]
      exact range_congr _ (fun q hq => by simp [e])
theorem tabI_new (m n i : Nat) {f g : Nat → Nat → Int} (h0 : ∀ q, q ≤ n → g i q = 0) (h1 : ∀ p q, i < p → p ≤ m → q ≤ n → g p q = f p q) : (tabI m n (i + 1) f).set i (List.replicate (n + 1) 0) = tabI m n i g := by
  unfold tabI
  rw [range_set]
  refine range_congr _ (fun p hp => ?_)
  by_cases e : p = i
  · subst e
    rw [if_pos rfl, if_neg (by omega), ← range_const]
    exact range_congr _ (fun q hq => (h0 q (by omega)).symm)
  · rw [if_neg e]
    by_cases c : p < i
    · rw [if_pos c, if_pos (by omega)]
    · rw [if_neg c, if_neg (by omega)]
      exact range_congr _ (fun q hq => (h1 p q (by omega) (by omega) (by omega)).symm)
section
variable {W : World} {base g m n cap e e1 : Nat} {ok : Nat → Prop} {k : Nat} {f : Nat → Nat → Int}
theorem tabI_rd (p q : Nat) (h0 : k ≤ p) (h1 : p ≤ m) (h2 : q ≤ n) : rd ((tabI m n k f).getD p []) (q : Int) = f p q := by
  rw [tabI_row _ _ _ _ _ h0 h1]
  exact range_getD _ _ _ _ (by omega)
/-- Row p of the rows that are there, its cells, and what a store leaves. -/
theorem tabI_get (h : Kd.S (Kd.slice e (Kd.int .i64)) e1 W base ok (.slice (some ⟨g, 0, none⟩) (m + 1) cap) (tabI m n k f)) (p : Nat) (hk : k ≤ p) (hp : p ≤ m) :
    ∃ gp cp, W.cell? ⟨g, p, none⟩ = some (.slice (some ⟨gp, 0, none⟩) (n + 1) cp) ∧ n + 1 ≤ cp ∧ base ≤ gp ∧
      (∀ q : Nat, q ≤ n → W.cell? ⟨gp, q, none⟩ = some (.int .i64 (f p q)) ∧ W.frozen? ⟨gp, q, none⟩ = false) ∧
      ∀ (q : Nat) (x : Int), Kd.S (Kd.slice e (Kd.int .i64)) e1 (W.setCell ⟨gp, q, none⟩ (.int .i64 x)) base ok (.slice (some ⟨g, 0, none⟩) (m + 1) cap) (tabI m n k (fun p' q' => if p' = p ∧ q' = q then x else f p' q')) := by
  have hr := tabI_row m n k f p hk hp
  have hl : ((tabI m n k f).getD p []).length = n + 1 := by rw [hr]; simp
  obtain ⟨gp, cp, h1, h2, h3, h4, h5⟩ := tab_get h p (by omega) (by omega)
  rw [hl] at h1 h2 h4
  refine ⟨gp, cp, h1, h2, h3, fun q hq => ?_, fun q x => ?_⟩
  · have := h4 q (by omega)
    rwa [tabI_rd p q hk hp hq] at this
  · have := h5 q x
    rwa [hr, tabI_set _ _ _ _ _ _ _ hk] at this
end
theorem lcsFrom_new (a b : List ByteArray) (i : Nat) : (tabI a.length b.length (i + 1) (lcsFrom a b (i + 1) 0)).set i (List.replicate (b.length + 1) 0) = tabI a.length b.length i (lcsFrom a b i b.length) :=
  tabI_new _ _ _ (fun q hq => by
    unfold lcsFrom
    split
    · obtain rfl : q = b.length := by omega
      exact lcsAt_end_r a b i
    · rfl) (fun p q h1 h2 h3 => by rw [lcsFrom_at a b (by omega), lcsFrom_at a b (by omega)])
theorem lcsFrom_last (a b : List ByteArray) (j : Nat) : tabI a.length b.length a.length (lcsFrom a b a.length j) = tabI a.length b.length a.length (lcsFrom a b a.length 0) :=
  tabI_congr (fun p q h0 h1 h2 => by
    obtain rfl : p = a.length := by omega
    rw [lcsFrom_at a b (i := a.length) (j := 0) (by omega), lcsAt_end_l]
    unfold lcsFrom
    split
    · exact lcsAt_end_l a b q
    · rfl)
theorem lcsFrom_fullI (a b : List ByteArray) : tabI a.length b.length 0 (lcsFrom a b 0 0) = lcsTab a b := by rw [tabI_zero, lcsFrom_full]
end Go.Proofs.Ytifkadmljokffaa.Pre
