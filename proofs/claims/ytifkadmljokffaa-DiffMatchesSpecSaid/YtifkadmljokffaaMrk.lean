/- Marked ranges of a line, plainly. No program in sight. -/
import Derived.Test.YtifkadmljokffaaAls
import Derived.Test.YtifkadmljokffaaWrd
import Derived.Test.YtifkadmljokffaaFrm
set_option linter.unusedVariables false
namespace Go.Proofs.Ytifkadmljokffaa.Pre
open Go.RowKit Go.Proofs.YtifkadmljokffaaW.PrintWords Go.Proofs.YtifkadmljokffaaW.PrintMore
abbrev Pr := Int × Int
/-- A token of n bytes is passed: the place, and the ranges so far. -/
def markStep (st : Int × List Pr) (n : Int) (m : Bool) : Int × List Pr :=
  (st.1 + n, if m = true then (if 0 < st.2.length ∧ (st.2.getD (st.2.length - 1) (0, 0)).2 = st.1 then st.2.set (st.2.length - 1) ((st.2.getD (st.2.length - 1) (0, 0)).1, st.1 + n) else st.2 ++ [(st.1, st.1 + n)]) else st.2)
/-- The ranges of one side (1: what is deleted; 2: what is inserted) of an alignment. -/
def markRun (sd : Int) : List (Int × ByteArray) → Int × List Pr → Int × List Pr
  | [], st => st
  | (k, s) :: r, st => markRun sd r (if k = 0 then markStep st s.size false else if k = sd then markStep st s.size true else st)
def marksOf (sd : Int) (a b : List ByteArray) : List Pr := (markRun sd (al a b) (0, [])).2
theorem markRun_keep (sd : Int) (s : ByteArray) (r : List (Int × ByteArray)) (st : Int × List Pr) : markRun sd ((0, s) :: r) st = markRun sd r (markStep st s.size false) := rfl
theorem markRun_11 (s : ByteArray) (r : List (Int × ByteArray)) (st : Int × List Pr) : markRun 1 ((1, s) :: r) st = markRun 1 r (markStep st s.size true) := rfl
theorem markRun_12 (s : ByteArray) (r : List (Int × ByteArray)) (st : Int × List Pr) : markRun 1 ((2, s) :: r) st = markRun 1 r st := rfl
theorem markRun_21 (s : ByteArray) (r : List (Int × ByteArray)) (st : Int × List Pr) : markRun 2 ((1, s) :: r) st = markRun 2 r st := rfl
theorem markRun_22 (s : ByteArray) (r : List (Int × ByteArray)) (st : Int × List Pr) : markRun 2 ((2, s) :: r) st = markRun 2 r (markStep st s.size true) := rfl
theorem al_keep_at {A B : List ByteArray} {p q : Nat} (hp : p < A.length) (hq : q < B.length) (h : rdOf ByteArray.empty A (p : Int) = rdOf ByteArray.empty B (q : Int)) :
    al (A.drop p) (B.drop q) = (0, rdOf ByteArray.empty A (p : Int)) :: al (A.drop (p + 1)) (B.drop (q + 1)) := by
  rw [rdOf_drop ByteArray.empty A p hp, rdOf_drop ByteArray.empty B q hq, ← h, al_eq]
theorem al_del_at {A B : List ByteArray} {p q : Nat} (hp : p ≤ A.length) (hq : q ≤ B.length) (hne : p < A.length → q < B.length → ¬ rdOf ByteArray.empty A (p : Int) = rdOf ByteArray.empty B (q : Int)) (hend : ¬ (p = A.length ∧ q = B.length)) (h : isDel A B p q = true) :
    p < A.length ∧ al (A.drop p) (B.drop q) = (1, rdOf ByteArray.empty A (p : Int)) :: al (A.drop (p + 1)) (B.drop q) := by
  unfold isDel at h
  by_cases hq' : q < B.length
  · rw [decide_eq_false (by omega), Bool.false_or, Bool.and_eq_true, decide_eq_true_iff, decide_eq_true_iff] at h
    refine ⟨h.1, ?_⟩
    have e0 := rdOf_drop ByteArray.empty A p h.1
    have e1 := rdOf_drop ByteArray.empty B q hq'
    have h2 := h.2
    unfold lcsAt at h2
    rw [e0, e1, al_ne (hne h.1 hq'), if_pos (by rw [← e0, ← e1]; omega)]
  · have e : q = B.length := by omega
    have hp' : p < A.length := by omega
    refine ⟨hp', ?_⟩
    rw [rdOf_drop ByteArray.empty A p hp', List.drop_of_length_le (show B.length ≤ q by omega), al_del]
theorem al_ins_at {A B : List ByteArray} {p q : Nat} (hp : p ≤ A.length) (hq : q ≤ B.length) (hne : p < A.length → q < B.length → ¬ rdOf ByteArray.empty A (p : Int) = rdOf ByteArray.empty B (q : Int)) (hend : ¬ (p = A.length ∧ q = B.length)) (h : isDel A B p q = false) :
    q < B.length ∧ al (A.drop p) (B.drop q) = (2, rdOf ByteArray.empty B (q : Int)) :: al (A.drop p) (B.drop (q + 1)) := by
  unfold isDel at h
  rw [Bool.or_eq_false_iff, decide_eq_false_iff_not] at h
  have hq' : q < B.length := by omega
  refine ⟨hq', ?_⟩
  have e1 := rdOf_drop ByteArray.empty B q hq'
  by_cases hp' : p < A.length
  · have e0 := rdOf_drop ByteArray.empty A p hp'
    have h2 := h.2
    rw [decide_eq_true hp', Bool.true_and, decide_eq_false_iff_not] at h2
    unfold lcsAt at h2
    rw [e0, e1, al_ne (hne hp' hq'), if_neg (by rw [← e0, ← e1]; omega)]
  · rw [e1, List.drop_of_length_le (show A.length ≤ p by omega), al_ins]
theorem markStep_length (st : Int × List Pr) (n : Int) (m : Bool) : (markStep st n m).2.length ≤ st.2.length + 1 := by
  unfold markStep
  simp only []
  split
  · split <;> simp
  · omega
theorem line_size {a : ByteArray} (h : (linesFault [a]).1 = 0) : a.size ≤ 80 := by
  have h2 : linesFault [a] = (0, 0) := by
    unfold linesFault at h ⊢
    rw [if_neg (by simp)] at h ⊢
    exact (faultAt_or [a] 0).resolve_right (fun k => k h)
  exact ((linesFault_ok.1 h2).2 a (List.mem_singleton.2 rfl)).1
theorem words_small {a : ByteArray} (h : (linesFault [a]).1 = 0) : (words a).length ≤ 80 ∧ (flatStr (words a)).size ≤ 80 := by
  have := line_size h
  have := words_length a
  rw [flatStr_words]
  omega
theorem flat_step {A : List ByteArray} {p : Nat} (hp : p < A.length) : (flatStr (A.drop p)).size = (rdOf ByteArray.empty A (p : Int)).size + (flatStr (A.drop (p + 1))).size := by
  rw [rdOf_drop ByteArray.empty A p hp, size_flatStr_cons]
end Go.Proofs.Ytifkadmljokffaa.Pre
