/- Patches that undo. -/
import Derived.Test.YtdnnkhogpobjbaaPch
set_option linter.unusedVariables false
namespace Go.Proofs.Ytdnnkhogpobjbaa.Pre

def invGo : List Hk → Int → List Hk
  | [], _ => []
  | h :: r, s => (h.1 + s, h.2.2, h.2.1) :: invGo r (s + ((h.2.2.length : Int) - (h.2.1.length : Int)))
def invSpec (p : List Hk) : List Hk × Int × Int :=
  if patchFault p = (0, 0) then (if patchFault (invGo p 0) = (0, 0) then (invGo p 0, 0, 0) else ([], 10, -1)) else ([], patchFault p)
theorem invGo_length (p : List Hk) : ∀ s, (invGo p s).length = p.length := by
  induction p with
  | nil => intro s; rfl
  | cons h r ih => intro s; show (invGo r _).length + 1 = r.length + 1; rw [ih]
theorem invGo_inv (p : List Hk) : ∀ s t : Int, s + t = 0 → invGo (invGo p s) t = p := by
  induction p with
  | nil => intro s t _; rfl
  | cons h r ih =>
    intro s t e
    show (h.1 + s + t, h.2.1, h.2.2) :: invGo (invGo r _) (t + ((h.2.1.length : Int) - (h.2.2.length : Int))) = h :: r
    rw [ih _ _ (by omega), show h.1 + s + t = h.1 by omega]
theorem inv_zero {p : List Hk} (h : (invSpec p).2.1 = 0) : patchFault p = (0, 0) ∧ patchFault (invGo p 0) = (0, 0) ∧ invSpec p = (invGo p 0, 0, 0) := by
  unfold invSpec at h ⊢
  rcases patchFault_or p with z | z
  · rw [if_pos z] at h ⊢
    by_cases c : patchFault (invGo p 0) = (0, 0)
    · rw [if_pos c]; exact ⟨z, c, rfl⟩
    · rw [if_neg c] at h; cases h
  · rw [if_neg (fun e => z (by rw [e]))] at h; exact absurd h z
theorem inv_good {p : List Hk} (h1 : patchFault p = (0, 0)) (h2 : patchFault (invGo p 0) = (0, 0)) : invSpec p = (invGo p 0, 0, 0) := by
  unfold invSpec
  rw [if_pos h1, if_pos h2]
theorem okFrom_all {p : List Hk} {low : Int} (h : okFrom p low) : ∀ x ∈ p, x.2.1.length ≤ 120 ∧ x.2.2.length ≤ 120 ∧ 0 ≤ x.1 ∧ x.1 ≤ 120 := by
  induction p generalizing low with
  | nil => intro x hx; cases hx
  | cons a r ih =>
    intro x hx
    rcases List.mem_cons.1 hx with rfl | hx
    · exact ⟨(linesFault_ok.1 h.1.2.2.2.1).1, (linesFault_ok.1 h.1.2.2.2.2.1).1, h.1.1, h.1.2.1⟩
    · exact ih h.2 x hx
theorem cut_lines {t : List ByteArray} {a b : Int} : ∀ x ∈ cutOut t a b, x ∈ t := fun _ hx => List.mem_of_mem_take (List.mem_of_mem_drop hx)
theorem res_lines (t : List ByteArray) (ht : ∀ s ∈ t, isLine s) (p : List Hk) : ∀ (low at_ : Int), okFrom p low → ∀ s ∈ resAt t p at_, isLine s := by
  induction p with
  | nil => intro low at_ _ s hs; exact ht s (List.mem_of_mem_drop hs)
  | cons h r ih =>
    intro low at_ hok s hs
    have hs : s ∈ cutOut t at_ h.1 ++ h.2.2 ++ resAt t r (hkEnd h) := hs
    rcases List.mem_append.1 hs with hs | hs
    · rcases List.mem_append.1 hs with hs | hs
      · exact ht s (cut_lines s hs)
      · exact (linesFault_ok.1 hok.1.2.2.2.2.1).2 s hs
    · exact ih _ _ hok.2 s hs
theorem cut_mid (x y z : List ByteArray) (a b : Int) (ha : a = x.length) (hb : b = x.length + y.length) : cutOut (x ++ y ++ z) a b = y := by
  unfold cutOut
  rw [show b.toNat = (x ++ y).length by rw [List.length_append]; omega, List.take_left, show a.toNat = x.length by omega, List.drop_left]
theorem undo_main (t : List ByteArray) (p : List Hk) : ∀ (at_ low s : Int) (pre : List ByteArray), 0 ≤ at_ → at_ ≤ low → at_ ≤ t.length → okFrom p low → fitsAt t p → (pre.length : Int) = at_ + s →
    fitsAt (pre ++ resAt t p at_) (invGo p s) ∧ resAt (pre ++ resAt t p at_) (invGo p s) (at_ + s) = t.drop at_.toNat := by
  induction p with
  | nil =>
    intro at_ low s pre h0 h1 h2 _ _ hp
    refine ⟨trivial, ?_⟩
    show (pre ++ t.drop at_.toNat).drop (at_ + s).toNat = _
    rw [show (at_ + s).toNat = pre.length by omega, List.drop_left]
  | cons h r ih =>
    intro at_ low s pre h0 h1 h2 hok hf hp
    obtain ⟨⟨o1, o2, o3, o4, o5, o6, o7⟩, hok'⟩ := hok
    obtain ⟨⟨f1, f2⟩, hf'⟩ := hf
    have he : hkEnd h = h.1 + (h.2.1.length : Int) := rfl
    have hc : ((cutOut t at_ h.1).length : Int) = h.1 - at_ := by
      unfold cutOut
      rw [List.length_drop, List.length_take]
      omega
    have e0 : resAt t (h :: r) at_ = cutOut t at_ h.1 ++ h.2.2 ++ resAt t r (hkEnd h) := rfl
    have key := ih (hkEnd h) (hkEnd h + 1) (s + ((h.2.2.length : Int) - (h.2.1.length : Int))) (pre ++ cutOut t at_ h.1 ++ h.2.2) (by omega) (by omega) f1 hok' hf'
      (by rw [List.length_append, List.length_append]; omega)
    have e1 : pre ++ resAt t (h :: r) at_ = (pre ++ cutOut t at_ h.1) ++ h.2.2 ++ resAt t r (hkEnd h) := by rw [e0]; simp only [List.append_assoc]
    rw [← e1] at key
    have hE : hkEnd (h.1 + s, h.2.2, h.2.1) = h.1 + s + (h.2.2.length : Int) := rfl
    refine ⟨⟨⟨?_, ?_⟩, key.1⟩, ?_⟩
    · rw [hE, e1, List.length_append, List.length_append, List.length_append]; omega
    · show cutOut _ (h.1 + s) (hkEnd (h.1 + s, h.2.2, h.2.1)) = h.2.2
      rw [hE, e1]
      exact cut_mid _ _ _ _ _ (by rw [List.length_append]; omega) (by rw [List.length_append]; omega)
    · show cutOut (pre ++ resAt t (h :: r) at_) (at_ + s) (h.1 + s) ++ h.2.1 ++ resAt (pre ++ resAt t (h :: r) at_) (invGo r _) (hkEnd (h.1 + s, h.2.2, h.2.1)) = _
      rw [hE, show h.1 + s + (h.2.2.length : Int) = hkEnd h + (s + ((h.2.2.length : Int) - (h.2.1.length : Int))) by omega, key.2]
      rw [show cutOut (pre ++ resAt t (h :: r) at_) (at_ + s) (h.1 + s) = cutOut t at_ h.1 by
        rw [e1, List.append_assoc (pre ++ cutOut t at_ h.1)]
        exact cut_mid _ _ _ _ _ hp.symm (by omega)]
      rw [← f2]
      unfold cutOut
      rw [show (List.drop at_.toNat (List.take h.1.toNat t)) = (List.take (h.1.toNat - at_.toNat) (List.drop at_.toNat t)) from by rw [List.drop_take]]
      rw [show (List.drop h.1.toNat (List.take (hkEnd h).toNat t)) = (List.take ((hkEnd h).toNat - h.1.toNat) (List.drop h.1.toNat t)) from by rw [List.drop_take]]
      have a1 : List.drop h.1.toNat t = List.drop (h.1.toNat - at_.toNat) (List.drop at_.toNat t) := by rw [List.drop_drop]; congr 1; omega
      have a2 : List.drop (hkEnd h).toNat t = List.drop ((hkEnd h).toNat - h.1.toNat) (List.drop h.1.toNat t) := by rw [List.drop_drop]; congr 1; omega
      rw [List.append_assoc, a2, List.take_append_drop, a1, List.take_append_drop]
end Go.Proofs.Ytdnnkhogpobjbaa.Pre
