/- The script is a patch; no patch is cheaper than the distance. -/
import Derived.Test.YtifkadmljokffaaAls
import Derived.Test.YtifkadmljokffaaPch
set_option linter.unusedVariables false
namespace Go.Proofs.Ytifkadmljokffaa.Pre
open Go.RowKit Go.Proofs.YtifkadmljokffaaW.PrintWords Go.Proofs.YtifkadmljokffaaW.PrintMore
/-! ### the script -/
theorem snoc_cut (l : List ByteArray) (s i : Nat) (hs : s ≤ i) (hi : i < l.length) : (l.take (i + 1)).drop s = (l.take i).drop s ++ [rdOf ByteArray.empty l (i : Int)] := by
  rw [rdOf_at _ _ _ hi, List.take_succ_eq_append_getElem hi, List.drop_append_of_le_length (by rw [List.length_take]; omega)]
theorem cut_self (l : List ByteArray) (i : Nat) : (l.take i).drop i = [] := List.drop_of_length_le (by rw [List.length_take]; omega)
theorem cut_length (l : List ByteArray) (s i : Nat) (hi : i ≤ l.length) : ((l.take i).drop s).length = i - s := by rw [List.length_drop, List.length_take]; omega
theorem cut_nil {l : List ByteArray} {s i : Nat} (hs : s ≤ i) (hi : i ≤ l.length) (h : (l.take i).drop s = []) : s = i := by
  have := cut_length l s i hi
  rw [h] at this
  simp at this
  omega
theorem hunksOf_app (x y : List Evt) : hunksOf (x ++ y) = hunksOf x ++ hunksOf y := by simp [hunksOf]
theorem linesFault_cut {l : List ByteArray} (h : linesFault l = (0, 0)) (a b : Nat) : linesFault ((l.take b).drop a) = (0, 0) := by
  obtain ⟨h1, h2⟩ := linesFault_ok.1 h
  exact linesFault_ok.2 ⟨by rw [List.length_drop, List.length_take]; omega, fun s hs => h2 s (List.mem_of_mem_take (List.mem_of_mem_drop hs))⟩
theorem script_facts (a b : List ByteArray) (ha : linesFault a = (0, 0)) (hb : linesFault b = (0, 0)) (n : Nat) : ∀ (i j s q : Nat), i ≤ a.length → j ≤ b.length → s ≤ i → q ≤ j → (a.length - i) + (b.length - j) = n →
    (∀ low : Int, low ≤ s → okFrom (hunksOf (ev i s ((a.take i).drop s) ((b.take j).drop q) (al (a.drop i) (b.drop j)))) low) ∧
    fitsAt a (hunksOf (ev i s ((a.take i).drop s) ((b.take j).drop q) (al (a.drop i) (b.drop j)))) ∧
    (∀ at_ : Nat, at_ ≤ s → resAt a (hunksOf (ev i s ((a.take i).drop s) ((b.take j).drop q) (al (a.drop i) (b.drop j)))) at_ = (a.take s).drop at_ ++ b.drop q) ∧
    costOf (hunksOf (ev i s ((a.take i).drop s) ((b.take j).drop q) (al (a.drop i) (b.drop j)))) = (i - s : Nat) + (j - q : Nat) + ((a.length - i : Nat) : Int) + ((b.length - j : Nat) : Int) - 2 * (lcs (a.drop i) (b.drop j) : Nat) ∧
    (hunksOf (ev i s ((a.take i).drop s) ((b.take j).drop q) (al (a.drop i) (b.drop j)))).length ≤ a.length - i + 1 := by
  have hal := (linesFault_ok.1 ha).1
  -- a run of changes that ends at i, j
  have run : ∀ (i j s q : Nat) (rest : List Hk), i ≤ a.length → j ≤ b.length → s ≤ i → q ≤ j → ¬ ((a.take i).drop s = [] ∧ (b.take j).drop q = []) →
      (∀ low : Int, low ≤ i + 1 → okFrom rest low) → fitsAt a rest → (resAt a rest i = b.drop j) →
      (∀ low : Int, low ≤ s → okFrom (((s : Int), (a.take i).drop s, (b.take j).drop q) :: rest) low) ∧ fitsAt a (((s : Int), (a.take i).drop s, (b.take j).drop q) :: rest) ∧
      (∀ at_ : Nat, at_ ≤ s → resAt a (((s : Int), (a.take i).drop s, (b.take j).drop q) :: rest) at_ = (a.take s).drop at_ ++ b.drop q) := by
    intro i j s q rest hi hj hs hq hne h1 h2 h3
    have he : hkEnd ((s : Int), (a.take i).drop s, (b.take j).drop q) = (i : Int) := by unfold hkEnd; simp only [cut_length a s i hi]; omega
    refine ⟨fun low hl => ⟨⟨by simp, by simp only; omega, hl, linesFault_cut ha _ _, linesFault_cut hb _ _, hne, by rw [he]; omega⟩, by rw [he]; exact h1 _ (Int.le_refl _)⟩, ⟨⟨by rw [he]; omega, ?_⟩, h2⟩, fun at_ hat => ?_⟩
    · rw [he]; rfl
    · rw [show resAt a (((s : Int), (a.take i).drop s, (b.take j).drop q) :: rest) at_ = cutOut a at_ s ++ (b.take j).drop q ++ resAt a rest (hkEnd ((s : Int), (a.take i).drop s, (b.take j).drop q)) from rfl, he, h3]
      unfold cutOut
      simp only [Int.toNat_natCast, List.append_assoc]
      congr 1
      have := List.take_append_drop (j - q) (b.drop q)
      rw [List.drop_drop, show q + (j - q) = j by omega] at this
      rw [← this, List.drop_take]
  induction n using Nat.strongRecOn with
  | ind n ih =>
    intro i j s q hi hj hs hq hn
    by_cases hi' : i < a.length
    · have hd := rdOf_drop ByteArray.empty a i hi'
      by_cases hj' : j < b.length
      · have hd2 := rdOf_drop ByteArray.empty b j hj'
        by_cases e : rdOf ByteArray.empty a (i : Int) = rdOf ByteArray.empty b (j : Int)
        · -- a line is kept
          obtain ⟨k1, k2, k3, k4, k5⟩ := ih (n - 2) (by omega) (i + 1) (j + 1) (i + 1) (j + 1) (by omega) (by omega) (Nat.le_refl _) (Nat.le_refl _) (by omega)
          rw [cut_self, cut_self] at k1 k2 k3 k4 k5
          rw [show ((i + 1 : Nat) : Int) = (i : Int) + 1 by omega] at k1 k2 k3 k4 k5
          have hev : hunksOf (ev i s ((a.take i).drop s) ((b.take j).drop q) (al (a.drop i) (b.drop j))) = hunksOf (flushH s ((a.take i).drop s) ((b.take j).drop q)) ++ hunksOf (ev ((i : Int) + 1) ((i : Int) + 1) [] [] (al (a.drop (i + 1)) (b.drop (j + 1)))) := by
            rw [hd, hd2, e, al_eq, ev_keep, hunksOf_app]; rfl
          have hlc : lcs (a.drop i) (b.drop j) = lcs (a.drop (i + 1)) (b.drop (j + 1)) + 1 := by rw [hd, hd2, e, lcs_cons, if_pos rfl]
          have hrest : resAt a (hunksOf (ev ((i : Int) + 1) ((i : Int) + 1) [] [] (al (a.drop (i + 1)) (b.drop (j + 1))))) i = b.drop j := by
            have := k3 i (by omega)
            have h5 := snoc_cut a i i (Nat.le_refl _) hi'
            rw [cut_self] at h5
            rw [this, h5, e, hd2]; rfl
          rw [hev, hlc]
          by_cases hne : (a.take i).drop s = [] ∧ (b.take j).drop q = []
          · have h1 := cut_nil hs hi hne.1
            have h2 := cut_nil hq hj hne.2
            subst h1 h2
            rw [show flushH (s : Int) ((a.take s).drop s) ((b.take q).drop q) = [] from if_pos hne]
            refine ⟨fun low hl => k1 low (by omega), k2, fun at_ hat => ?_, by rw [show hunksOf [] = [] from rfl, List.nil_append, k4]; omega, by rw [show hunksOf [] = [] from rfl, List.nil_append]; omega⟩
            have h5 := snoc_cut a at_ s hat hi'
            have := k3 at_ (by omega)
            rw [show hunksOf [] = [] from rfl, List.nil_append, this, h5, hd2, e]
            simp
          · rw [flushH_ne hne]
            obtain ⟨r1, r2, r3⟩ := run i j s q _ hi hj hs hq hne (fun low hl => k1 low (by omega)) k2 hrest
            refine ⟨r1, r2, r3, ?_, ?_⟩
            · show ((a.take i).drop s).length + (((b.take j).drop q).length : Int) + costOf (hunksOf (ev ((i : Int) + 1) ((i : Int) + 1) [] [] (al (a.drop (i + 1)) (b.drop (j + 1))))) = _
              rw [k4, cut_length a s i hi, cut_length b q j hj]
              omega
            · show (_ :: hunksOf (ev ((i : Int) + 1) ((i : Int) + 1) [] [] (al (a.drop (i + 1)) (b.drop (j + 1)))) : List Hk).length ≤ _
              rw [List.length_cons]
              omega
        · rw [hd, hd2, al_ne e]
          split
          · rename_i hc
            obtain ⟨k1, k2, k3, k4, k5⟩ := ih (n - 1) (by omega) (i + 1) j s q (by omega) hj (by omega) hq (by omega)
            rw [snoc_cut a s i hs hi', show ((i + 1 : Nat) : Int) = (i : Int) + 1 by omega, hd2] at k1 k2 k3 k4 k5
            rw [ev_del]
            refine ⟨k1, k2, k3, k4.trans ?_, by have := k5; omega⟩
            rw [lcs_cons, if_neg e]
            omega
          · rename_i hc
            obtain ⟨k1, k2, k3, k4, k5⟩ := ih (n - 1) (by omega) i (j + 1) s q hi (by omega) hs (by omega) (by omega)
            rw [snoc_cut b q j hq hj', hd] at k1 k2 k3 k4 k5
            rw [ev_ins]
            refine ⟨k1, k2, k3, k4.trans ?_, k5⟩
            rw [lcs_cons, if_neg e]
            omega
      · have hbe : b.drop j = [] := List.drop_of_length_le (by omega)
        obtain ⟨k1, k2, k3, k4, k5⟩ := ih (n - 1) (by omega) (i + 1) j s q (by omega) hj (by omega) hq (by omega)
        rw [snoc_cut a s i hs hi', show ((i + 1 : Nat) : Int) = (i : Int) + 1 by omega, hbe] at k1 k2 k3 k4 k5
        rw [hbe, hd, al_del, ev_del]
        refine ⟨k1, k2, k3, k4.trans ?_, by have := k5; omega⟩
        rw [lcs_nil_r, lcs_nil_r]
        omega
    · have hae : a.drop i = [] := List.drop_of_length_le (by omega)
      by_cases hj' : j < b.length
      · have hd2 := rdOf_drop ByteArray.empty b j hj'
        obtain ⟨k1, k2, k3, k4, k5⟩ := ih (n - 1) (by omega) i (j + 1) s q hi (by omega) hs (by omega) (by omega)
        rw [snoc_cut b q j hq hj', hae] at k1 k2 k3 k4 k5
        rw [hae, hd2, al_ins, ev_ins]
        refine ⟨k1, k2, k3, k4.trans ?_, k5⟩
        rw [lcs_nil_l, lcs_nil_l]
        omega
      · have hbe : b.drop j = [] := List.drop_of_length_le (by omega)
        rw [hae, hbe, al_nil, ev_nil, lcs_nil_l]
        by_cases hne : (a.take i).drop s = [] ∧ (b.take j).drop q = []
        · have h1 := cut_nil hs hi hne.1
          have h2 := cut_nil hq hj hne.2
          subst h1 h2
          rw [show flushH (s : Int) ((a.take s).drop s) ((b.take q).drop q) = [] from if_pos hne]
          refine ⟨fun low _ => trivial, trivial, fun at_ hat => ?_, by show (0 : Int) = _; omega, by simp [hunksOf]⟩
          show a.drop (at_ : Int).toNat = _
          rw [hbe, List.append_nil, Int.toNat_natCast, List.take_of_length_le (by omega)]
        · rw [flushH_ne hne]
          obtain ⟨r1, r2, r3⟩ := run i j s q [] hi hj hs hq hne (fun _ _ => trivial) trivial (by show a.drop (i : Int).toNat = _; rw [Int.toNat_natCast, hae, hbe])
          refine ⟨r1, r2, r3, ?_, by show (_ :: [] : List Hk).length ≤ _; simp⟩
          show ((a.take i).drop s).length + (((b.take j).drop q).length : Int) + 0 = _
          rw [cut_length a s i hi, cut_length b q j hj]
          omega
theorem script_main (a b : List ByteArray) (ha : linesFault a = (0, 0)) (hb : linesFault b = (0, 0)) : patchFault (scriptOf a b) = (0, 0) ∧ fitsAt a (scriptOf a b) ∧ resAt a (scriptOf a b) 0 = b ∧ costOf (scriptOf a b) = distOf a b := by
  obtain ⟨k1, k2, k3, k4, k5⟩ := script_facts a b ha hb _ 0 0 0 0 (Nat.zero_le _) (Nat.zero_le _) (Nat.le_refl _) (Nat.le_refl _) rfl
  have e : hunksOf (ev ((0 : Nat) : Int) ((0 : Nat) : Int) ((a.take 0).drop 0) ((b.take 0).drop 0) (al (a.drop 0) (b.drop 0))) = scriptOf a b := rfl
  rw [e] at k1 k2 k3 k4 k5
  have hal := (linesFault_ok.1 ha).1
  refine ⟨patchFault_ok.2 ⟨by omega, k1 0 (by omega)⟩, k2, by have := k3 0 (Nat.le_refl _); simpa using this, ?_⟩
  rw [k4]
  unfold distOf
  simp only [List.drop_zero]
  omega
def oldSum : List Hk → Nat
  | [] => 0
  | h :: r => h.2.1.length + oldSum r
def newSum : List Hk → Nat
  | [] => 0
  | h :: r => h.2.2.length + newSum r
theorem cost_sum (p : List Hk) : costOf p = (oldSum p : Int) + newSum p := by
  induction p with
  | nil => rfl
  | cons h r ih => unfold costOf oldSum newSum; rw [ih]; omega
/-- What a patch leaves alone is common to both texts. -/
theorem patch_common (t : List ByteArray) (p : List Hk) : ∀ (at_ : Nat) (low : Int), (at_ : Int) ≤ low → at_ ≤ t.length → okFrom p low → fitsAt t p →
    ∃ s, List.Sublist s (t.drop at_) ∧ List.Sublist s (resAt t p at_) ∧ s.length + oldSum p = t.length - at_ ∧ (resAt t p at_).length = s.length + newSum p := by
  induction p with
  | nil =>
    intro at_ low h1 h2 _ _
    exact ⟨t.drop at_, List.Sublist.refl _, by show List.Sublist _ (t.drop (at_ : Int).toNat); rw [Int.toNat_natCast]; exact List.Sublist.refl _, by rw [List.length_drop]; rfl, by show (t.drop (at_ : Int).toNat).length = _; rw [Int.toNat_natCast]; rfl⟩
  | cons h r ih =>
    intro at_ low h1 h2 hok hf
    obtain ⟨⟨o1, o2, o3, o4, o5, o6, o7⟩, hok'⟩ := hok
    obtain ⟨⟨f1, f2⟩, hf'⟩ := hf
    have he : hkEnd h = h.1 + (h.2.1.length : Int) := rfl
    obtain ⟨m, hm⟩ : ∃ m : Nat, h.1 = (m : Int) := ⟨h.1.toNat, by omega⟩
    obtain ⟨e, hee⟩ : ∃ e : Nat, hkEnd h = (e : Int) := ⟨(hkEnd h).toNat, by omega⟩
    obtain ⟨s, s1, s2, s3, s4⟩ := ih e (hkEnd h + 1) (by omega) (by omega) hok' hf'
    have hcl : ((t.take m).drop at_).length = m - at_ := cut_length t at_ m (by omega)
    refine ⟨(t.take m).drop at_ ++ s, ?_, ?_, ?_, ?_⟩
    · have e1 : t.drop at_ = (t.take m).drop at_ ++ t.drop m := by
        have := List.take_append_drop (m - at_) (t.drop at_)
        rw [List.drop_drop, show at_ + (m - at_) = m by omega] at this
        rw [← this, List.drop_take]
      rw [e1]
      refine List.Sublist.append (List.Sublist.refl _) (s1.trans ?_)
      rw [show e = m + h.2.1.length by omega, ← List.drop_drop]
      exact List.drop_sublist _ _
    · show List.Sublist _ (cutOut t at_ h.1 ++ h.2.2 ++ resAt t r (hkEnd h))
      rw [hee, hm]
      unfold cutOut
      rw [Int.toNat_natCast, Int.toNat_natCast, List.append_assoc]
      exact List.Sublist.append (List.Sublist.refl _) (s2.trans (List.sublist_append_right _ _))
    · rw [List.length_append, hcl]; unfold oldSum; omega
    · show (cutOut t at_ h.1 ++ h.2.2 ++ resAt t r (hkEnd h)).length = _
      rw [hee, hm]
      unfold cutOut newSum
      rw [Int.toNat_natCast, Int.toNat_natCast, List.length_append, List.length_append, List.length_append, hcl, s4]
      omega
theorem patch_least (t : List ByteArray) (p : List Hk) (hok : okFrom p 0) (hf : fitsAt t p) : distOf t (resAt t p 0) ≤ costOf p := by
  obtain ⟨s, s1, s2, s3, s4⟩ := patch_common t p 0 0 (Int.le_refl _) (Nat.zero_le _) hok hf
  rw [List.drop_zero] at s1
  have := le_lcs s1 s2
  rw [cost_sum]
  unfold distOf
  have e : resAt t p ((0 : Nat) : Int) = resAt t p 0 := rfl
  rw [e] at s4 this
  omega
end Go.Proofs.Ytifkadmljokffaa.Pre
