/- Patches of texts, plainly. No program in sight. -/
import Derived.Test.YtifkadmljokffaaPre
set_option linter.unusedVariables false
namespace Go.Proofs.Ytifkadmljokffaa.Pre
open Go.RowKit Go.Proofs.YtifkadmljokffaaW.PrintWords

/-! ### validity -/
abbrev Hk := Int × List ByteArray × List ByteArray
def hkEnd (h : Hk) : Int := h.1 + (h.2.1.length : Int)
def hkCode (h : Hk) (low : Int) : Int :=
  if h.1 < 0 ∨ 120 < h.1 then 3
  else if (linesFault h.2.1).1 = 0 then
    (if (linesFault h.2.2).1 = 0 then (if (h.2.1 = [] ∧ h.2.2 = []) ∨ h.1 < low then 5 else if 120 < hkEnd h then 3 else 0) else (linesFault h.2.2).1)
  else (linesFault h.2.1).1
def pvGo : List Hk → Int → Int → Int × Int
  | [], _, _ => (0, 0)
  | h :: r, low, i => if hkCode h low = 0 then pvGo r (hkEnd h + 1) (i + 1) else (hkCode h low, i)
def patchFault (p : List Hk) : Int × Int := if 130 < p.length then (2, -1) else pvGo p 0 0
def okHk (h : Hk) (low : Int) : Prop := 0 ≤ h.1 ∧ h.1 ≤ 120 ∧ low ≤ h.1 ∧ linesFault h.2.1 = (0, 0) ∧ linesFault h.2.2 = (0, 0) ∧ ¬ (h.2.1 = [] ∧ h.2.2 = []) ∧ hkEnd h ≤ 120
def okFrom : List Hk → Int → Prop
  | [], _ => True
  | h :: r, low => okHk h low ∧ okFrom r (hkEnd h + 1)
theorem hkCode_zero (h : Hk) (low : Int) : hkCode h low = 0 ↔ okHk h low := by
  unfold hkCode okHk
  by_cases c1 : h.1 < 0 ∨ 120 < h.1
  · rw [if_pos c1]; exact ⟨fun h => (by cases h), fun h => (by omega)⟩
  · rw [if_neg c1]
    by_cases c2 : (linesFault h.2.1).1 = 0
    · rw [if_pos c2]
      by_cases c3 : (linesFault h.2.2).1 = 0
      · rw [if_pos c3]
        by_cases c4 : (h.2.1 = [] ∧ h.2.2 = []) ∨ h.1 < low
        · rw [if_pos c4]; exact ⟨fun h => (by cases h), fun k => (by rcases c4 with c | c; exact absurd c k.2.2.2.2.2.1; have := k.2.2.1; omega)⟩
        · rw [if_neg c4]
          by_cases c5 : 120 < hkEnd h
          · rw [if_pos c5]; exact ⟨fun h => (by cases h), fun k => (by omega)⟩
          · rw [if_neg c5]; exact ⟨fun _ => ⟨by omega, by omega, by omega, linesFault_zero c2, linesFault_zero c3, fun k => c4 (.inl k), by omega⟩, fun _ => rfl⟩
      · rw [if_neg c3]; exact ⟨fun k => absurd k c3, fun k => absurd (congrArg Prod.fst k.2.2.2.2.1) c3⟩
    · rw [if_neg c2]; exact ⟨fun k => absurd k c2, fun k => absurd (congrArg Prod.fst k.2.2.2.1) c2⟩
theorem pvGo_or (p : List Hk) : ∀ low i, pvGo p low i = (0, 0) ∨ ¬ (pvGo p low i).1 = 0 := by
  induction p with
  | nil => intro low i; exact .inl rfl
  | cons h r ih =>
    intro low i
    unfold pvGo
    split
    · exact ih _ _
    · rename_i c; exact .inr c
theorem pvGo_ok (p : List Hk) : ∀ low i, pvGo p low i = (0, 0) ↔ okFrom p low := by
  induction p with
  | nil => intro low i; exact ⟨fun _ => trivial, fun _ => rfl⟩
  | cons h r ih =>
    intro low i
    unfold pvGo okFrom
    by_cases c : hkCode h low = 0
    · rw [if_pos c, ih]; exact ⟨fun k => ⟨(hkCode_zero h low).1 c, k⟩, fun k => k.2⟩
    · rw [if_neg c]; exact ⟨fun k => absurd (congrArg Prod.fst k) c, fun k => absurd ((hkCode_zero h low).2 k.1) c⟩
theorem patchFault_or (p : List Hk) : patchFault p = (0, 0) ∨ ¬ (patchFault p).1 = 0 := by
  unfold patchFault
  split
  · exact .inr (by decide)
  · exact pvGo_or _ _ _
theorem patchFault_ok {p : List Hk} : patchFault p = (0, 0) ↔ p.length ≤ 130 ∧ okFrom p 0 := by
  unfold patchFault
  by_cases h : 130 < p.length
  · rw [if_pos h]; exact ⟨fun k => (by cases k), fun k => (by omega)⟩
  · rw [if_neg h, pvGo_ok]; exact ⟨fun k => ⟨by omega, k⟩, fun k => k.2⟩
theorem patchFault_zero {p : List Hk} (h : (patchFault p).1 = 0) : patchFault p = (0, 0) := (patchFault_or p).resolve_right (fun h' => h' h)

/-! ### applying -/
def cutOut (t : List ByteArray) (a b : Int) : List ByteArray := (t.take b.toNat).drop a.toNat
def apGo (t : List ByteArray) : List Hk → Int → Int → List ByteArray → List ByteArray × Int × Int
  | [], at_, _, out => if 120 < (out ++ t.drop at_.toNat).length then ([], 10, -1) else (out ++ t.drop at_.toNat, 0, 0)
  | h :: r, at_, i, out => if hkEnd h ≤ t.length ∧ cutOut t h.1 (hkEnd h) = h.2.1 then apGo t r (hkEnd h) (i + 1) (out ++ cutOut t at_ h.1 ++ h.2.2) else ([], 19, i)
def applySpec (p : List Hk) (t : List ByteArray) : List ByteArray × Int × Int :=
  if patchFault p = (0, 0) then (if (linesFault t).1 = 0 then apGo t p 0 0 [] else ([], (linesFault t).1, -2)) else ([], patchFault p)
def fitsAt (t : List ByteArray) : List Hk → Prop
  | [] => True
  | h :: r => (hkEnd h ≤ t.length ∧ cutOut t h.1 (hkEnd h) = h.2.1) ∧ fitsAt t r
def resAt (t : List ByteArray) : List Hk → Int → List ByteArray
  | [], at_ => t.drop at_.toNat
  | h :: r, at_ => cutOut t at_ h.1 ++ h.2.2 ++ resAt t r (hkEnd h)
theorem apGo_fits (t : List ByteArray) (p : List Hk) : ∀ at_ i out, fitsAt t p → apGo t p at_ i out = if 120 < (out ++ resAt t p at_).length then ([], 10, -1) else (out ++ resAt t p at_, 0, 0) := by
  induction p with
  | nil => intro at_ i out _; rfl
  | cons h r ih =>
    intro at_ i out hf
    unfold apGo
    rw [if_pos hf.1, ih _ _ _ hf.2, show resAt t (h :: r) at_ = cutOut t at_ h.1 ++ h.2.2 ++ resAt t r (hkEnd h) from rfl]
    simp only [List.append_assoc]
theorem apGo_code (t : List ByteArray) (p : List Hk) : ∀ at_ i out, (apGo t p at_ i out).2.1 = 0 → fitsAt t p := by
  induction p with
  | nil => intro at_ i out _; trivial
  | cons h r ih =>
    intro at_ i out hc
    unfold apGo at hc
    by_cases c : hkEnd h ≤ t.length ∧ cutOut t h.1 (hkEnd h) = h.2.1
    · rw [if_pos c] at hc; exact ⟨c, ih _ _ _ hc⟩
    · rw [if_neg c] at hc; cases hc
theorem apply_zero {p : List Hk} {t : List ByteArray} (h : (applySpec p t).2.1 = 0) : patchFault p = (0, 0) ∧ linesFault t = (0, 0) ∧ fitsAt t p ∧ (resAt t p 0).length ≤ 120 ∧ applySpec p t = (resAt t p 0, 0, 0) := by
  unfold applySpec at h ⊢
  rcases patchFault_or p with z | z
  · rw [if_pos z] at h ⊢
    by_cases c : (linesFault t).1 = 0
    · rw [if_pos c] at h ⊢
      have hf := apGo_code t p _ _ _ h
      rw [apGo_fits t p 0 0 [] hf] at h ⊢
      by_cases d : 120 < ([] ++ resAt t p 0).length
      · rw [if_pos d] at h; cases h
      · rw [if_neg d]; exact ⟨z, linesFault_zero c, hf, by simpa using d, rfl⟩
    · rw [if_neg c] at h; exact absurd h c
  · rw [if_neg (fun e => z (by rw [e]))] at h; exact absurd h z
theorem apply_good {p : List Hk} {t : List ByteArray} (h1 : patchFault p = (0, 0)) (h2 : linesFault t = (0, 0)) (h3 : fitsAt t p) (h4 : (resAt t p 0).length ≤ 120) : applySpec p t = (resAt t p 0, 0, 0) := by
  unfold applySpec
  rw [if_pos h1, if_pos (by rw [h2]), apGo_fits t p 0 0 [] h3, if_neg (by simpa using h4)]
  rfl
def costOf : List Hk → Int
  | [] => 0
  | h :: r => (h.2.1.length : Int) + h.2.2.length + costOf r

theorem okFrom_mem {p : List Hk} {low : Int} (h : okFrom p low) : ∀ x ∈ p, linesFault x.2.1 = (0, 0) ∧ linesFault x.2.2 = (0, 0) := by
  induction p generalizing low with
  | nil => intro x hx; cases hx
  | cons a r ih =>
    intro x hx
    rcases List.mem_cons.1 hx with rfl | hx
    · exact ⟨h.1.2.2.2.1, h.1.2.2.2.2.1⟩
    · exact ih h.2 x hx
end Go.Proofs.Ytifkadmljokffaa.Pre
