/- Plain lemmas on numbers, bytes and lists, and the plain functions that the printed functions are shown to be. No program in sight. -/
import Derived.Test.YtdnnkhogpobjbaaWWords
import Derived.Lib.Bytes
import Derived.Lib.Builder
import Derived.Lib.UnsafeStr
import Derived.Lib.AppendStr
import Derived.Lib.Bytealg
import Derived.Lib.Strings
set_option linter.unusedVariables false
namespace Go.Proofs.Ytdnnkhogpobjbaa.Pre
open Go.RowKit Go.Proofs.YtdnnkhogpobjbaaW.PrintWords

/-! ### numbers -/
theorem w64 {n : Int} (h0 : -9223372036854775808 ≤ n) (h1 : n ≤ 9223372036854775807) : wrap64 n = n := by unfold wrap64; omega
/-! ### strings: equality of their bytes is equality -/
theorem toList_inj {a b : ByteArray} : a.toList = b.toList ↔ a = b := by
  rw [ByteArray.toList_eq, ByteArray.toList_eq, Array.toList_inj]
  exact ⟨fun h => ByteArray.ext h, fun h => by rw [h]⟩
/-! ### what a loop over a row still has before it -/
theorem rdOf_drop {α : Type} (d : α) (xs : List α) (i : Nat) (h : i < xs.length) : xs.drop i = rdOf d xs i :: xs.drop (i + 1) := by
  rw [List.drop_eq_getElem_cons h]
  simp [rdOf, List.getD_eq_getElem?_getD, List.getElem?_eq_getElem h]
/-! ### digests -/
/-! #### each step can be undone -/
/-! ### texts as lists of lines -/
def hasNl (s : ByteArray) : Bool := s.data.toList.contains 10
def faultAt : List ByteArray → Int → Int × Int
  | [], _ => (0, 0)
  | s :: r, i => if 80 < s.size then (2, i) else if hasNl s = true then (5, i) else faultAt r (i + 1)
def linesFault (l : List ByteArray) : Int × Int := if 120 < l.length then (2, -1) else faultAt l 0
theorem faultAt_or (l : List ByteArray) : ∀ i, faultAt l i = (0, 0) ∨ ¬ (faultAt l i).1 = 0 := by
  induction l with
  | nil => intro i; exact .inl rfl
  | cons s r ih =>
    intro i
    unfold faultAt
    split
    · exact .inr (by simp)
    · split
      · exact .inr (by simp)
      · exact ih _
theorem linesFault_or (l : List ByteArray) : linesFault l = (0, 0) ∨ ¬ (linesFault l).1 = 0 := by
  unfold linesFault
  split
  · exact .inr (by decide)
  · exact faultAt_or l 0
theorem linesFault_zero {l : List ByteArray} (h : (linesFault l).1 = 0) : linesFault l = (0, 0) := (linesFault_or l).resolve_right (fun h' => h' h)
/-- A line: at most 80 bytes, no newline. -/
def isLine (s : ByteArray) : Prop := s.size ≤ 80 ∧ hasNl s = false
theorem faultAt_ok {l : List ByteArray} {i : Int} : faultAt l i = (0, 0) ↔ ∀ s ∈ l, isLine s := by
  induction l generalizing i with
  | nil => simp [faultAt]
  | cons s r ih =>
    unfold faultAt
    by_cases h1 : 80 < s.size
    · simp [h1, isLine]; omega
    · by_cases h2 : hasNl s = true
      · simp [h1, h2, isLine]
      · rw [if_neg h1, if_neg h2, ih]
        simp only [List.mem_cons, forall_eq_or_imp]
        exact ⟨fun h => ⟨⟨by omega, by simpa using h2⟩, h⟩, fun h => h.2⟩
theorem linesFault_ok {l : List ByteArray} : linesFault l = (0, 0) ↔ l.length ≤ 120 ∧ ∀ s ∈ l, isLine s := by
  unfold linesFault
  by_cases h : 120 < l.length
  · simp [h]; omega
  · rw [if_neg h, faultAt_ok]
    exact ⟨fun h' => ⟨by omega, h'⟩, fun h' => h'.2⟩
theorem fault_ne {f : Int × Int} (h : f = (0, 0) ∨ ¬ f.1 = 0) : (!(f.1 == 0) || (!(f.2 == 0))) = decide (¬ f = (0, 0)) := by
  rcases h with rfl | h
  · decide
  · have h2 : ¬ f = (0, 0) := fun e => h (congrArg Prod.fst e)
    simp [h, h2]

/-! ### a text of lines -/
/-! ### small facts for walks by hand -/
end Go.Proofs.Ytdnnkhogpobjbaa.Pre

