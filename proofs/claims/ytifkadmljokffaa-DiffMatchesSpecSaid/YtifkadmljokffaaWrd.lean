/- The words of a line, plainly. No program in sight. -/
import Derived.Test.YtifkadmljokffaaPre
set_option linter.unusedVariables false
namespace Go.Proofs.Ytifkadmljokffaa.Pre
open Go.RowKit Go.Proofs.YtifkadmljokffaaW.PrintWords

/-- The class of a byte: 0: of a word; 1: a space; 2: another. -/
def cls (c : Int) : Int := if (97 ≤ c ∧ c ≤ 122) ∨ (65 ≤ c ∧ c ≤ 90) ∨ (48 ≤ c ∧ c ≤ 57) ∨ c = 95 ∨ 128 ≤ c then 0 else if c = 32 ∨ c = 9 then 1 else 2
theorem cls_0 {c : Int} (h : (97 ≤ c ∧ c ≤ 122) ∨ (65 ≤ c ∧ c ≤ 90) ∨ (48 ≤ c ∧ c ≤ 57) ∨ c = 95 ∨ 128 ≤ c) : cls c = 0 := if_pos h
theorem cls_1 {c : Int} (h : ¬ ((97 ≤ c ∧ c ≤ 122) ∨ (65 ≤ c ∧ c ≤ 90) ∨ (48 ≤ c ∧ c ≤ 57) ∨ c = 95 ∨ 128 ≤ c)) (k : c = 32 ∨ c = 9) : cls c = 1 := by unfold cls; rw [if_neg h, if_pos k]
theorem cls_2 {c : Int} (h : ¬ ((97 ≤ c ∧ c ≤ 122) ∨ (65 ≤ c ∧ c ≤ 90) ∨ (48 ≤ c ∧ c ≤ 57) ∨ c = 95 ∨ 128 ≤ c)) (k : ¬ (c = 32 ∨ c = 9)) : cls c = 2 := by unfold cls; rw [if_neg h, if_neg k]
/-- A word ends ahead of c, p being the byte ahead of c. -/
def cutAt (p c : UInt8) : Prop := cls (c.toNat : Int) = 2 ∨ ¬ cls (c.toNat : Int) = cls (p.toNat : Int)
instance (p c : UInt8) : Decidable (cutAt p c) := by unfold cutAt; infer_instance
/-- The words: cur has been gathered, p its last byte. -/
def tkGo : List UInt8 → UInt8 → List UInt8 → List (List UInt8)
  | cur, _, [] => [cur]
  | cur, p, c :: r => if cutAt p c then cur :: tkGo [c] c r else tkGo (cur ++ [c]) c r
def tks : List UInt8 → List (List UInt8)
  | [] => []
  | c :: r => tkGo [c] c r
def words (s : ByteArray) : List ByteArray := (tks s.data.toList).map mkStr
theorem tkGo_flat (r : List UInt8) : ∀ (cur : List UInt8) (p : UInt8), (tkGo cur p r).flatten = cur ++ r := by
  induction r with
  | nil => intro cur p; simp [tkGo]
  | cons c r ih =>
    intro cur p
    unfold tkGo
    split
    · rw [List.flatten_cons, ih]; simp
    · rw [ih]; simp
theorem tks_flat (l : List UInt8) : (tks l).flatten = l := by
  cases l with
  | nil => rfl
  | cons c r => unfold tks; rw [tkGo_flat]; rfl
theorem tkGo_ne (r : List UInt8) : ∀ (cur : List UInt8) (p : UInt8), cur ≠ [] → ∀ t ∈ tkGo cur p r, t ≠ [] := by
  induction r with
  | nil => intro cur p h t ht; simp [tkGo] at ht; rw [ht]; exact h
  | cons c r ih =>
    intro cur p h t ht
    unfold tkGo at ht
    split at ht
    · rcases List.mem_cons.1 ht with rfl | ht
      · exact h
      · exact ih [c] c (by simp) t ht
    · exact ih (cur ++ [c]) c (by simp) t ht
theorem tks_ne (l : List UInt8) : ∀ t ∈ tks l, t ≠ [] := by
  cases l with
  | nil => intro t ht; simp [tks] at ht
  | cons c r => exact tkGo_ne r [c] c (by simp)
theorem tkGo_length (r : List UInt8) : ∀ (cur : List UInt8) (p : UInt8), (tkGo cur p r).length ≤ r.length + 1 := by
  induction r with
  | nil => intro cur p; simp [tkGo]
  | cons c r ih =>
    intro cur p
    unfold tkGo
    split
    · have := ih [c] c; simp only [List.length_cons]; omega
    · have := ih (cur ++ [c]) c; simp only [List.length_cons]; omega
/-- Where the loop stands: i bytes are read, the word that is gathered begins at st. -/
def wordsAt (s : ByteArray) (st i : Nat) : List ByteArray := (tkGo ((s.data.toList.drop st).take (i - st)) (s.data.toList.getD (i - 1) 0) (s.data.toList.drop i)).map mkStr
theorem words_start (s : ByteArray) (h : 0 < s.size) : words s = wordsAt s 0 1 := by
  unfold words wordsAt
  have h1 : 0 < s.data.toList.length := by rw [← Lib.size_eq]; exact h
  cases e : s.data.toList with
  | nil => rw [e] at h1; simp at h1
  | cons c r => simp [tks]
theorem words_nil (s : ByteArray) (h : s.size = 0) : words s = [] := by
  have : s.data.toList = [] := List.eq_nil_of_length_eq_zero (by rw [← Lib.size_eq]; exact h)
  unfold words; rw [this]; rfl
theorem wordsAt_end (s : ByteArray) (st : Nat) (h : st ≤ s.size) : wordsAt s st s.size = [s.extract st s.size] := by
  unfold wordsAt
  rw [show s.data.toList.drop s.size = [] from List.drop_of_length_le (Nat.le_of_eq (Lib.size_eq s).symm)]
  simp only [tkGo, List.map_cons, List.map_nil]
  rw [← Lib.extract_data, mkStr_toList]
theorem wordsAt_step (s : ByteArray) (st i : Nat) (h0 : st < i) (h : i < s.size) : wordsAt s st i =
    if cls (bt s i) = 2 ∨ ¬ cls (bt s i) = cls (bt s ((i - 1 : Nat) : Int)) then s.extract st i :: wordsAt s i (i + 1) else wordsAt s st (i + 1) := by
  have hl : s.data.toList.length = s.size := (Lib.size_eq s).symm
  have e1 := bt_at' s i (by omega)
  have e2 := bt_at' s (i - 1) (by omega)
  have d1 : s.data.toList.drop i = s.data.toList[i] :: s.data.toList.drop (i + 1) := (List.getElem_cons_drop (by omega)).symm
  have g1 : s.data.toList.getD (i - 1) 0 = s.data.toList[i - 1]'(by omega) := by rw [List.getD_eq_getElem?_getD, List.getElem?_eq_getElem (by omega)]; rfl
  have g2 : s.data.toList.getD i 0 = s.data.toList[i] := by rw [List.getD_eq_getElem?_getD, List.getElem?_eq_getElem (by omega)]; rfl
  rw [e1, e2]
  unfold wordsAt
  rw [d1, tkGo, g1, Nat.add_sub_cancel, g2]
  have hc : cutAt (s.data.toList[i - 1]'(by omega)) s.data.toList[i] ↔ (cls ((s.data.toList[i]).toNat : Int) = 2 ∨ ¬ cls ((s.data.toList[i]).toNat : Int) = cls ((s.data.toList[i - 1]'(by omega)).toNat : Int)) := Iff.rfl
  by_cases c : cutAt (s.data.toList[i - 1]'(by omega)) s.data.toList[i]
  · rw [if_pos c, if_pos (hc.1 c), List.map_cons]
    congr 1
    · rw [← Lib.extract_data, mkStr_toList]
    · rw [show i + 1 - i = 1 by omega]
      rfl
  · rw [if_neg c, if_neg (fun h => c (hc.2 h))]
    congr 2
    rw [show i + 1 - st = (i - st) + 1 by omega, List.take_succ_eq_append_getElem (by rw [List.length_drop]; omega)]
    congr 2
    rw [List.getElem_drop]
    congr 1
    omega
/-- The strings of a list together. -/
def flatStr (l : List ByteArray) : ByteArray := mkStr (l.map (fun s => s.data.toList)).flatten
theorem flatStr_words (s : ByteArray) : flatStr (words s) = s := by
  unfold flatStr words
  rw [List.map_map, show ((fun s : ByteArray => s.data.toList) ∘ mkStr) = id from funext (fun _ => rfl), List.map_id, tks_flat, mkStr_toList]
theorem words_ne (s : ByteArray) : ∀ t ∈ words s, ¬ t.toList = [] := by
  intro t ht
  obtain ⟨u, hu, rfl⟩ := List.mem_map.1 ht
  rw [toList_nil, size_mkStr]
  exact fun h => tks_ne _ u hu (List.eq_nil_of_length_eq_zero h)
theorem flatStr_nil : flatStr [] = ByteArray.empty := rfl
theorem flatStr_cons (s : ByteArray) (l : List ByteArray) : flatStr (s :: l) = s ++ flatStr l := by
  apply ByteArray.ext
  show _ = (s ++ flatStr l).data
  rw [ByteArray.data_append]
  apply Array.toList_inj.1
  simp [flatStr, mkStr]
theorem size_flatStr_cons (s : ByteArray) (l : List ByteArray) : (flatStr (s :: l)).size = s.size + (flatStr l).size := by rw [flatStr_cons, ByteArray.size_append]
theorem words_length (s : ByteArray) : (words s).length ≤ s.size := by
  unfold words
  rw [List.length_map]
  have h := Lib.size_eq s
  cases e : s.data.toList with
  | nil => simp [tks]
  | cons c r =>
    rw [e] at h
    have := tkGo_length r [c] c
    simp only [tks, List.length_cons] at *
    omega
end Go.Proofs.Ytifkadmljokffaa.Pre
