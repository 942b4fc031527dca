/- For all lines, the functions of package diff return the specified results. -/
import Derived.Test.YtifkadmljokffaaPB7
namespace Go.Proofs.Ytifkadmljokffaa.Pure
open Go.RowKit Go.Proofs.Ytifkadmljokffaa.PB Go.Proofs.Ytifkadmljokffaa.Pre Go.Proofs.YtifkadmljokffaaW.PrintWords Go.Proofs.YtifkadmljokffaaW.PrintLast

def mk79 (x : Int × ByteArray) : S79 := ⟨x.1, x.2⟩
theorem wm_row (A B : List ByteArray) (q p : Nat) (hq : q ≤ B.length) (hp : p ≤ A.length) : rd (rd_L2 (lcsTab B A) (q : Int)) (p : Int) = (lcs (B.drop q) (A.drop p) : Int) := by
  have h := tab_rd B.length A.length (fun p q => (lcs (B.drop p) (A.drop q) : Int)) q p hq hp
  unfold rd_L2
  rw [Int.toNat_natCast]
  exact h
theorem wm_rowlen (A B : List ByteArray) (q : Nat) (hq : q ≤ B.length) : (rd_L2 (lcsTab B A) (q : Int)).length = A.length + 1 := by
  unfold rd_L2
  rw [Int.toNat_natCast, show (lcsTab B A).getD q [] = (List.range (A.length + 1)).map (fun i => (lcs (B.drop q) (A.drop i) : Int)) from tab_row _ _ _ _ hq]
  simp
theorem wm_align (A B : List ByteArray) (hA : A.length ≤ 1000) (hB : B.length ≤ 1000) (d : Nat) : ∀ (k p q : Nat) (out : List S79), p ≤ A.length → q ≤ B.length → (A.length - p) + (B.length - q) = d → 4 * d + 4 ≤ k → out.length ≤ p + q →
    changeforgeref1_Align.l0 k A B (lcsTab B A) out (p : Int) (q : Int) = some (out ++ (al (A.drop p) (B.drop q)).map mk79) := by
  induction d using Nat.strongRecOn with
  | _ d ih =>
    intro k p q out hp hq hd hk ho
    obtain ⟨k, rfl⟩ : ∃ m, k = m + 3 := ⟨k - 3, by omega⟩
    have hT : (lcsTab B A).length = B.length + 1 := tab_length _ _ _
    have ep : ((p + 1 : Nat) : Int) = (p : Int) + 1 := by omega
    have eq_ : ((q + 1 : Nat) : Int) = (q : Int) + 1 := by omega
    by_cases hend : p = A.length ∧ q = B.length
    · rw [changeforgeref1_Align.l0, if_neg (by omega), changeforgeref1_Align.j1, if_neg (by rw [decide_eq_true_iff]; omega), hend.1, hend.2, List.drop_length, List.drop_length, al_nil]
      simp
    · have start : changeforgeref1_Align.l0 (k + 3) A B (lcsTab B A) out (p : Int) (q : Int) = (if (p : Int) < (A.length : Int) then (if (q : Int) < (B.length : Int) then (if 0 ≤ (p : Int) then (if 0 ≤ (q : Int) then (changeforgeref1_Align.j2 (k + 1) A B (lcsTab B A) out (p : Int) (q : Int) ((rdOf ByteArray.empty A (p : Int)).toList == (rdOf ByteArray.empty B (q : Int)).toList)) else (none)) else (none)) else (changeforgeref1_Align.j2 (k + 1) A B (lcsTab B A) out (p : Int) (q : Int) false)) else (changeforgeref1_Align.j2 (k + 1) A B (lcsTab B A) out (p : Int) (q : Int) false)) := by
        rw [changeforgeref1_Align.l0]
        by_cases h : (p : Int) < (A.length : Int)
        · rw [if_pos h, changeforgeref1_Align.j1, if_pos rfl]
        · rw [if_neg h, changeforgeref1_Align.j1, if_pos (by rw [decide_eq_true_iff]; omega)]
      have del : p < A.length → al (A.drop p) (B.drop q) = (1, rdOf ByteArray.empty A (p : Int)) :: al (A.drop (p + 1)) (B.drop q) → changeforgeref1_Align.l0 k A B (lcsTab B A) (out ++ [(⟨1, rdOf ByteArray.empty A (p : Int)⟩ : S79)]) (wrap64 ((p : Int) + 1)) (q : Int) = some (out ++ (al (A.drop p) (B.drop q)).map mk79) := fun h e => by
        rw [w64 (by omega) (by omega), ← ep, ih (d - 1) (by omega) k (p + 1) q _ (by omega) hq (by omega) (by omega) (by rw [List.length_append, List.length_singleton]; omega), e, List.append_assoc]
        rfl
      have ins : q < B.length → al (A.drop p) (B.drop q) = (2, rdOf ByteArray.empty B (q : Int)) :: al (A.drop p) (B.drop (q + 1)) → changeforgeref1_Align.l0 k A B (lcsTab B A) (out ++ [(⟨2, rdOf ByteArray.empty B (q : Int)⟩ : S79)]) (p : Int) (wrap64 ((q : Int) + 1)) = some (out ++ (al (A.drop p) (B.drop q)).map mk79) := fun h e => by
        rw [w64 (by omega) (by omega), ← eq_, ih (d - 1) (by omega) k p (q + 1) _ hp (by omega) (by omega) (by omega) (by rw [List.length_append, List.length_singleton]; omega), e, List.append_assoc]
        rfl
      have no : (p < A.length → q < B.length → ¬ rdOf ByteArray.empty A (p : Int) = rdOf ByteArray.empty B (q : Int)) → changeforgeref1_Align.j2 (k + 1) A B (lcsTab B A) out (p : Int) (q : Int) false = some (out ++ (al (A.drop p) (B.drop q)).map mk79) := fun hne => by
        rw [changeforgeref1_Align.j2, if_neg (by decide)]
        by_cases hqe : q = B.length
        · have hp' : p < A.length := by omega
          have e : al (A.drop p) (B.drop q) = (1, rdOf ByteArray.empty A (p : Int)) :: al (A.drop (p + 1)) (B.drop q) := by
            rw [rdOf_drop ByteArray.empty A p hp', List.drop_of_length_le (show B.length ≤ q by omega), al_del]
          rw [if_pos (by omega), if_pos (by omega), if_pos (by omega), if_pos (by omega)]
          exact del hp' e
        · have hq' : q < B.length := by omega
          rw [if_neg (by omega)]
          by_cases hp' : p < A.length
          · have e0 := rdOf_drop ByteArray.empty A p hp'
            have e1 := rdOf_drop ByteArray.empty B q hq'
            have r1 := wm_row A B q (p + 1) hq (by omega)
            have r2 := wm_row A B (q + 1) p (by omega) hp
            rw [ep] at r1
            rw [eq_] at r2
            have hl1 := wm_rowlen A B q hq
            have hl2 := wm_rowlen A B (q + 1) (by omega)
            rw [eq_] at hl2
            rw [if_pos (by omega), if_pos (by omega), if_pos (by omega), w64 (n := (p : Int) + 1) (by omega) (by omega), w64 (n := (q : Int) + 1) (by omega) (by omega), if_pos (by omega), if_pos (by omega), if_pos (by omega), if_pos (by omega), if_pos (by omega), if_pos (by omega), r1, r2]
            rw [lcs_comm (B.drop q), lcs_comm (B.drop (q + 1))]
            have e := al_ne (hne hp' hq') (A.drop (p + 1)) (B.drop (q + 1))
            rw [← e0, ← e1] at e
            by_cases c : lcs (A.drop p) (B.drop (q + 1)) ≤ lcs (A.drop (p + 1)) (B.drop q)
            · rw [if_pos c] at e
              rw [if_pos (by omega), if_pos (by omega)]
              have := del hp' e
              rw [w64 (n := (p : Int) + 1) (by omega) (by omega)] at this
              exact this
            · rw [if_neg c] at e
              rw [if_neg (by omega), if_pos (by omega), if_pos (by omega)]
              have := ins hq' e
              rw [w64 (n := (q : Int) + 1) (by omega) (by omega)] at this
              exact this
          · have e : al (A.drop p) (B.drop q) = (2, rdOf ByteArray.empty B (q : Int)) :: al (A.drop p) (B.drop (q + 1)) := by
              rw [rdOf_drop ByteArray.empty B q hq', List.drop_of_length_le (show A.length ≤ p by omega), al_ins]
            rw [if_neg (by omega), if_pos (by omega), if_pos (by omega), if_pos (by omega)]
            exact ins hq' e
      rw [start]
      by_cases hp' : p < A.length
      · rw [if_pos (by omega)]
        by_cases hq' : q < B.length
        · rw [if_pos (by omega), if_pos (by omega), if_pos (by omega), beq_toList]
          by_cases c : rdOf ByteArray.empty A (p : Int) = rdOf ByteArray.empty B (q : Int)
          · rw [decide_eq_true c, changeforgeref1_Align.j2, if_pos rfl, if_pos (by omega), if_pos (by omega), if_pos (by omega), w64 (by omega) (by omega), w64 (by omega) (by omega), ← ep, ← eq_, ih (d - 2) (by omega) k (p + 1) (q + 1) _ (by omega) (by omega) (by omega) (by omega) (by rw [List.length_append, List.length_singleton]; omega), al_keep_at hp' hq' c, List.append_assoc]
            rfl
          · rw [decide_eq_false c]
            exact no (fun _ _ => c)
        · rw [if_neg (by omega)]
          exact no (fun _ h => absurd h hq')
      · rw [if_neg (by omega)]
        exact no (fun h => absurd h hp')

theorem dm_last (done : List Hk) (h h' : Hk) : (done ++ [h]).set ((done ++ [h]).length - 1) h' = done ++ [h'] := by
  rw [List.length_append, List.length_singleton, Nat.add_sub_cancel, List.set_append_right _ _ (Nat.le_refl _), Nat.sub_self]
  rfl
theorem dm_step (k : Int) (x : ByteArray) (i : Int) (done : List Hk) (s : Int) (o n : List ByteArray) : poStep k x i true (done ++ [(s, o, n)]) = done ++ [if k = 1 then (s, o ++ [x], n) else (s, o, n ++ [x])] := by
  unfold poStep
  simp only [if_true, poLast_snoc]
  rw [dm_last]
theorem dm_step0 (k : Int) (x : ByteArray) (i : Int) (done : List Hk) : poStep k x i false done = done ++ [if k = 1 then (i, [x], []) else (i, [], [x])] := by
  unfold poStep
  simp only [Bool.false_eq_true, if_false, poLast_snoc, List.nil_append]
  rw [dm_last]
theorem dm_go (l : List (Int × ByteArray)) : ∀ (i : Int) (done : List Hk),
    (∀ (s : Int) (o n : List ByteArray), ¬ (o = [] ∧ n = []) → poGo l i true (done ++ [(s, o, n)]) = done ++ hunksOf (ev i s o n l)) ∧ poGo l i false done = done ++ hunksOf (ev i i [] [] l) := by
  induction l with
  | nil =>
    intro i done
    refine ⟨fun s o n h => ?_, ?_⟩
    · rw [ev_nil, flushH_ne h]
      rfl
    · rw [ev_nil, flushH_nil]
      simp [hunksOf, poGo]
  | cons e r ih =>
    intro i done
    obtain ⟨k, x⟩ := e
    refine ⟨fun s o n h => ?_, ?_⟩
    · rw [poGo, ev]
      by_cases h0 : k = 0
      · rw [if_pos h0, if_pos h0, (ih (i + 1) _).2, hunksOf_app, flushH_ne h, List.append_assoc]
        rfl
      · rw [if_neg h0, if_neg h0, dm_step]
        by_cases h1 : k = 1
        · rw [if_pos h1, if_pos h1, if_pos h1, (ih (i + 1) done).1 _ _ _ (by simp)]
        · rw [if_neg h1, if_neg h1, if_neg h1, (ih i done).1 _ _ _ (by simp)]
    · rw [poGo, ev]
      by_cases h0 : k = 0
      · rw [if_pos h0, if_pos h0, (ih (i + 1) _).2, hunksOf_app, flushH_nil]
        rfl
      · rw [if_neg h0, if_neg h0, dm_step0]
        by_cases h1 : k = 1
        · rw [if_pos h1, if_pos h1, if_pos h1, (ih (i + 1) done).1 _ _ _ (by simp)]
          rfl
        · rw [if_neg h1, if_neg h1, if_neg h1, (ih i done).1 _ _ _ (by simp)]
          rfl
theorem dm_script (A B : List ByteArray) : poGo (al A B) 0 false [] = scriptOf A B := by
  rw [(dm_go (al A B) 0 []).2]
  rfl
theorem dm_moved : changeforgelaw1_moved.f = some true := by
  unfold changeforgelaw1_moved.f diff_Distance.f
  rw [show ((⟨#[120]⟩ : ByteArray)) = mkStr [120] from rfl, show ((⟨#[121]⟩ : ByteArray)) = mkStr [121] from rfl, dist_moved]
  rfl
theorem dm_alignf (k : Nat) (A B : List ByteArray) (hA : A.length ≤ 120) (hB : B.length ≤ 120) (hk : 2000 ≤ k) : changeforgeref1_Align.f k A B = some ((al A B).map mk79) := by
  unfold changeforgeref1_Align.f changeforgeref1_suffixes.f
  rw [if_pos ⟨by omega, by omega⟩, Option.bind_some]
  exact wm_align A B (by omega) (by omega) _ k 0 0 [] (by omega) (by omega) rfl (by omega) (by simp)
theorem dm_scriptf (k : Nat) (A B : List ByteArray) (hA : A.length ≤ 120) (hB : B.length ≤ 120) (hk : 2000 ≤ k) : changeforgeref1_Script.f k A B = some ((scriptOf A B).map fun h_ => (⟨h_.1, h_.2.1, h_.2.2⟩ : S70)) := by
  have hl := al_length _ A B rfl
  unfold changeforgeref1_Script.f
  rw [dm_alignf k A B hA hB hk, Option.bind_some]
  unfold changeforgeref1_PatchOf.f
  rw [if_pos (by rw [List.length_map]; omega), Option.bind_some, List.map_map, show (List.map ((fun x : S79 => (x.f0, x.f1)) ∘ mk79) (al A B)) = al A B from List.map_id' _, dm_script]
theorem dm_kept_loop (L : List (Int × ByteArray)) (hL : L.length ≤ 1000) (d : Nat) : ∀ (k i : Nat) (out : List ByteArray), i ≤ L.length → L.length - i = d → d < k → out.length ≤ i →
    changeforgeref1_Kept.l0 k out (L.map mk79) (i : Int) = some (out ++ keptLines (L.drop i)) := by
  have hm : (L.map mk79).length = L.length := List.length_map ..
  induction d with
  | zero =>
    intro k i out hi hd hk ho
    obtain ⟨k, rfl⟩ : ∃ m, k = m + 1 := ⟨k - 1, by omega⟩
    rw [changeforgeref1_Kept.l0, if_neg (by omega), List.drop_eq_nil_of_le (by omega)]
    simp [keptLines]
  | succ d ih =>
    intro k i out hi hd hk ho
    obtain ⟨k, rfl⟩ : ∃ m, k = m + 1 := ⟨k - 1, by omega⟩
    have hil : i < L.length := by omega
    have e : L.drop i = L[i] :: L.drop (i + 1) := List.drop_eq_getElem_cons hil
    have er : rd_T79 (L.map mk79) (i : Int) = mk79 L[i] := by
      show (L.map mk79).getD (i : Int).toNat _ = _
      rw [Int.toNat_natCast, List.getD_eq_getElem?_getD, List.getElem?_map, List.getElem?_eq_getElem hil]
      rfl
    generalize L[i] = x at *
    obtain ⟨kk, s⟩ := x
    rw [changeforgeref1_Kept.l0, if_pos (by omega), if_pos (by omega), er, e, w64 (by omega) (by omega), show ((i : Int) + 1) = ((i + 1 : Nat) : Int) by omega]
    by_cases c : kk = 0
    · rw [if_pos (show (mk79 (kk, s)).f0 = 0 from c), if_pos (by omega), ih k (i + 1) _ (by omega) (by omega) (by omega) (by rw [List.length_append, List.length_singleton]; omega), List.append_assoc]
      subst c
      rfl
    · rw [if_neg (show ¬ (mk79 (kk, s)).f0 = 0 from c), ih k (i + 1) _ (by omega) (by omega) (by omega) (by omega)]
      rw [show keptLines ((kk, s) :: L.drop (i + 1)) = keptLines (L.drop (i + 1)) by simp [keptLines, c]]
theorem dm_keptf (k : Nat) (A B : List ByteArray) (hA : A.length ≤ 120) (hB : B.length ≤ 120) (hk : 2000 ≤ k) : changeforgeref1_Kept.f k A B = some (keptOf A B) := by
  have hl := al_length _ A B rfl
  unfold changeforgeref1_Kept.f
  rw [dm_alignf k A B hA hB hk, Option.bind_some]
  exact dm_kept_loop (al A B) (by omega) _ k 0 [] (by omega) rfl (by omega) (by simp)
theorem dm_distf (A B : List ByteArray) (hA : A.length ≤ 120) (hB : B.length ≤ 120) : changeforgeref1_Distance.f A B = some (distOf A B) := by
  unfold changeforgeref1_Distance.f changeforgeref1_suffixes.f
  have h1 := wm_row A B 0 0 (by omega) (by omega)
  have h2 := wm_rowlen A B 0 (by omega)
  have h3 : (lcsTab B A).length = B.length + 1 := tab_length _ _ _
  have h4 := lcs_le B A
  rw [show ((0 : Nat) : Int) = (0 : Int) from rfl] at h1 h2
  rw [if_pos ⟨by omega, by omega⟩, Option.bind_some, if_pos (by omega), if_pos (by omega), h1, List.drop_zero, List.drop_zero, w64 (n := (A.length : Int) + B.length) (by omega) (by omega), w64 (n := 2 * (lcs B A : Int)) (by omega) (by omega), w64 (by omega) (by omega), lcs_comm B A]
  rfl
theorem dm_same_loop (xs : List S70) (hm : xs.length ≤ 9223372036854775807) (d : Nat) : ∀ (k i : Nat), i ≤ xs.length → xs.length - i = d → d < k → changeforgeequal_Patch.l0 k (i : Int) xs xs = some true := by
  induction d with
  | zero =>
    intro k i hi hd hk
    obtain ⟨k, rfl⟩ : ∃ m, k = m + 1 := ⟨k - 1, by omega⟩
    simp only [changeforgeequal_Patch.l0]
    rw [if_neg (by omega)]
  | succ d ih =>
    intro k i hi hd hk
    obtain ⟨k, rfl⟩ : ∃ m, k = m + 1 := ⟨k - 1, by omega⟩
    simp only [changeforgeequal_Patch.l0, changeforgeequal_Strings.f, Option.bind_some, decide_true, if_true]
    rw [if_pos (by omega), if_pos (by omega), if_pos (by omega), w64 (by omega) (by omega)]
    have := ih k (i + 1) (by omega) (by omega) (by omega)
    rw [show ((i + 1 : Nat) : Int) = (i : Int) + 1 by omega] at this
    exact this
theorem dm_same (k : Nat) (xs : List S70) (h : xs.length < k) (hm : xs.length ≤ 9223372036854775807) : changeforgeequal_Patch.f k xs xs = some true := by
  unfold changeforgeequal_Patch.f
  rw [if_pos rfl]
  exact dm_same_loop xs hm xs.length k 0 (by omega) (by omega) h
theorem DiffMatchesSpec : changeforgelaw1_DiffMatchesSpec.Pure := by
  intro l0 l1 h0 g0 _ h1 g1 _
  refine ⟨5001, ?_⟩
  unfold changeforgelaw1_DiffMatchesSpec.f
  simp only [diff_Distance.f, diff_Script.f, diff_Common.f, changeforgeref1_TwoFault.f, Option.bind_some, changeforgelaw1_DiffMatchesSpec.j0, dm_moved]
  unfold distSpec scriptOr commonLines
  rcases twoFault_or l0 l1 with z | z
  · obtain ⟨za, zb⟩ := twoFault_ok.1 z
    have ha := (linesFault_ok.1 za).1
    have hb := (linesFault_ok.1 zb).1
    have hl := al_length _ l0 l1 rfl
    have hs := ev_length (al l0 l1) 0 0 [] []
    have hs' : (scriptOf l0 l1).length ≤ 241 := by
      have : (scriptOf l0 l1).length = (hunksOf (ev 0 0 [] [] (al l0 l1))).length := rfl
      omega
    rw [z]
    simp only [if_true, beq_self_eq_true, Bool.not_true, Bool.or_self, Bool.false_eq_true, if_false]
    rw [dm_distf l0 l1 (by omega) (by omega), dm_scriptf 5000 l0 l1 (by omega) (by omega) (by omega), dm_keptf 5000 l0 l1 (by omega) (by omega) (by omega)]
    simp only [Option.bind_some, if_true, changeforgeequal_Strings.f, decide_true]
    rw [dm_same 5000 _ (by rw [List.length_map]; omega) (by rw [List.length_map]; omega)]
    simp only [Option.bind_some, if_true]
  · have e : ¬ twoFault l0 l1 = (0, 0) := fun h => z (congrArg Prod.fst h)
    simp only [if_neg e, beq_self_eq_true, Bool.not_true, Bool.or_self, Bool.false_eq_true, if_false, if_neg z]
    simp

end Go.Proofs.Ytifkadmljokffaa.Pure
