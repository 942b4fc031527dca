/- A patch that is moved behind another one of the same text. -/
import Derived.Test.YtdnnkhogpobjbaaEff
set_option linter.unusedVariables false
namespace Go.Proofs.Ytdnnkhogpobjbaa.Pre
def rebSpec (p o : List Hk) : List Hk × Bool × Int × Int :=
  if patchFault p = (0, 0) then
    (if patchFault o = (0, 0) then
      (if indepB (oldsOf p) (oldsOf o) = true then (if patchFault (commB p o) = (0, 0) then (commB p o, true, 0, 0) else ([], false, 10, -1)) else ([], false, 0, 0))
    else ([], false, (patchFault o).1, -2))
  else ([], false, patchFault p)
theorem indep_comm (a b : List Sp) : indepB a b = indepB b a := by
  rw [Bool.eq_iff_iff, indep_iff, indep_iff]
  exact ⟨fun h x hx y hy => (h y hy x hx).symm, fun h x hx y hy => (h y hy x hx).symm⟩
theorem mix_ex0 (n : Nat) : ∀ (p q : List Hk) (low : Int), p.length + q.length = n → sepH p low → sepH q low → (∀ x ∈ oldsOf p, ∀ y ∈ oldsOf q, x.2 < y.1 ∨ y.2 < x.1) → ∃ L, sepM L low ∧ lefts L = p ∧ lefts (swp L) = q := by
  induction n with
  | zero =>
    intro p q low hn _ _ _
    obtain rfl := List.eq_nil_of_length_eq_zero (show p.length = 0 by omega)
    obtain rfl := List.eq_nil_of_length_eq_zero (show q.length = 0 by omega)
    exact ⟨[], trivial, rfl, rfl⟩
  | succ n ih =>
    intro p q low hn hp hq hi
    have step : ∀ (h : Hk) (q' : List Hk), q = h :: q' → sepH p (hkEnd h + 1) → ∃ L, sepM L low ∧ lefts L = p ∧ lefts (swp L) = q := by
      intro h q' e hp'
      subst e
      obtain ⟨L, l1, l2, l3⟩ := ih p q' (hkEnd h + 1) (by rw [List.length_cons] at hn; omega) hp' hq.2 (fun x hx y hy => hi x hx y (List.mem_cons_of_mem _ hy))
      exact ⟨(false, h) :: L, ⟨hq.1, l1⟩, l2, congrArg (List.cons h) l3⟩
    have stepL : ∀ (g : Hk) (p' : List Hk), p = g :: p' → sepH q (hkEnd g + 1) → ∃ L, sepM L low ∧ lefts L = p ∧ lefts (swp L) = q := by
      intro g p' e hq'
      subst e
      obtain ⟨L, l1, l2, l3⟩ := ih p' q (hkEnd g + 1) (by rw [List.length_cons] at hn; omega) hp.2 hq' (fun x hx y hy => hi x (List.mem_cons_of_mem _ hx) y hy)
      exact ⟨(true, g) :: L, ⟨hp.1, l1⟩, congrArg (List.cons g) l2, l3⟩
    cases p with
    | nil =>
      cases q with
      | nil => simp at hn
      | cons h q' => exact step h q' rfl trivial
    | cons g p' =>
      cases q with
      | nil => exact stepL g p' rfl trivial
      | cons h q' =>
        rcases hi (g.1, hkEnd g) (List.mem_cons_self ..) (h.1, hkEnd h) (List.mem_cons_self ..) with c | c
        · have c : hkEnd g < h.1 := c
          exact stepL g p' rfl ⟨by omega, hq.2⟩
        · have c : hkEnd h < g.1 := c
          exact step h q' rfl ⟨by omega, hp.2⟩
theorem commB_mix {L : Mx} {low : Int} (hs : sepM L low) : commB (lefts L) (lefts (swp L)) = rightsS 0 (swp L) := (comm_mix hs).2.2
theorem reb_yes {p o : List Hk} (h : (rebSpec p o).2.1 = true) : ∃ L : Mx, sepM L 0 ∧ p = lefts L ∧ o = lefts (swp L) ∧ patchFault p = (0, 0) ∧ patchFault o = (0, 0) ∧ patchFault (rightsS 0 (swp L)) = (0, 0) ∧ rebSpec p o = (rightsS 0 (swp L), true, 0, 0) := by
  unfold rebSpec at h ⊢
  by_cases z1 : patchFault p = (0, 0)
  · rw [if_pos z1] at h ⊢
    by_cases z2 : patchFault o = (0, 0)
    · rw [if_pos z2] at h ⊢
      by_cases z3 : indepB (oldsOf p) (oldsOf o) = true
      · rw [if_pos z3] at h ⊢
        obtain ⟨L, hs, rfl, rfl⟩ := mix_ex0 _ p o 0 rfl (sep_ok (patchFault_ok.1 z1).2) (sep_ok (patchFault_ok.1 z2).2) (indep_iff.1 z3)
        rw [commB_mix hs] at h ⊢
        by_cases z4 : patchFault (rightsS 0 (swp L)) = (0, 0)
        · rw [if_pos z4]
          exact ⟨L, hs, rfl, rfl, z1, z2, z4, rfl⟩
        · rw [if_neg z4] at h; cases h
      · rw [if_neg z3] at h; cases h
    · rw [if_neg z2] at h; cases h
  · rw [if_neg z1] at h; cases h
theorem reb_val {p o : List Hk} (h : (rebSpec p o).2.1 = true) : rebSpec p o = (commB p o, true, 0, 0) ∧ patchFault (commB p o) = (0, 0) := by
  unfold rebSpec at h ⊢
  by_cases z1 : patchFault p = (0, 0)
  · rw [if_pos z1] at h ⊢
    by_cases z2 : patchFault o = (0, 0)
    · rw [if_pos z2] at h ⊢
      by_cases z3 : indepB (oldsOf p) (oldsOf o) = true
      · rw [if_pos z3] at h ⊢
        by_cases z4 : patchFault (commB p o) = (0, 0)
        · rw [if_pos z4]
          exact ⟨rfl, z4⟩
        · rw [if_neg z4] at h; cases h
      · rw [if_neg z3] at h; cases h
    · rw [if_neg z2] at h; cases h
  · rw [if_neg z1] at h; cases h
/-- Both ways together: each moved patch fits behind the other one, and both orders give the same text. -/
theorem reb_both {t : List ByteArray} {L : Mx} (hs : sepM L 0) (hp : fitsAt t (lefts L)) (hq : fitsAt t (lefts (swp L))) :
    fitsAt (resAt t (lefts L) 0) (rightsS 0 L) ∧ fitsAt (resAt t (lefts (swp L)) 0) (rightsS 0 (swp L)) ∧ resAt (resAt t (lefts (swp L)) 0) (rightsS 0 (swp L)) 0 = resAt (resAt t (lefts L) 0) (rightsS 0 L) 0 := by
  have k := eff_main t L 0 0 0 [] (by omega) (by omega) (by omega) hs hp rfl
  rw [List.nil_append] at k
  obtain ⟨a, b, c⟩ := eff_both hs hp (k.1.2 hq)
  exact ⟨k.1.2 hq, b, c⟩
/-- Where neither answers a fault, both ways say alike whether the patch could be moved. -/
theorem reb_alike {p o : List Hk} (h : (rebSpec p o).2.2.1 = 0) (k : (rebSpec o p).2.2.1 = 0) : (rebSpec p o).2.1 = (rebSpec o p).2.1 := by
  unfold rebSpec at h k ⊢
  by_cases z1 : patchFault p = (0, 0)
  · by_cases z2 : patchFault o = (0, 0)
    · simp only [if_pos z1, if_pos z2] at h k ⊢
      rw [indep_comm (oldsOf o)] at k ⊢
      by_cases z3 : indepB (oldsOf p) (oldsOf o) = true
      · simp only [if_pos z3] at h k ⊢
        by_cases z4 : patchFault (commB p o) = (0, 0)
        · by_cases z5 : patchFault (commB o p) = (0, 0)
          · rw [if_pos z4, if_pos z5]
          · rw [if_neg z5] at k; cases k
        · rw [if_neg z4] at h; cases h
      · rw [if_neg z3, if_neg z3]
    · rw [if_pos z1, if_neg z2] at h
      exact absurd h ((patchFault_or o).resolve_left z2)
  · rw [if_neg z1] at h
    exact absurd h ((patchFault_or p).resolve_left z1)
end Go.Proofs.Ytdnnkhogpobjbaa.Pre

