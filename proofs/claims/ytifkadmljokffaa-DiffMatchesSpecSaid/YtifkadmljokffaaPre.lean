/- Plain lemmas on numbers, bytes and lists, and the plain functions that the printed functions are shown to be. No program in sight. -/
import Derived.Test.YtifkadmljokffaaWWords
import Derived.Lib.Bytes
import Derived.Lib.Builder
import Derived.Lib.UnsafeStr
import Derived.Lib.AppendStr
import Derived.Lib.Bytealg
import Derived.Lib.Strings
set_option linter.unusedVariables false
namespace Go.Proofs.Ytifkadmljokffaa.Pre
open Go.RowKit Go.Proofs.YtifkadmljokffaaW.PrintWords

/-! ### numbers -/
theorem w64 {n : Int} (h0 : -9223372036854775808 ≤ n) (h1 : n ≤ 9223372036854775807) : wrap64 n = n := by unfold wrap64; omega
theorem u64w (n : Int) : IntKind.u64.wrap n = n % 18446744073709551616 := by simp [IntKind.wrap, IntKind.bits, IntKind.signed]
theorem u64_in {n : Int} (h0 : 0 ≤ n) (h1 : n < 18446744073709551616) : IntKind.u64.wrap n = n := by rw [u64w]; omega
theorem tmod_pos {a : Int} (b : Int) (h : 0 ≤ a) : Int.tmod a b = a % b := Int.tmod_eq_emod_of_nonneg h
theorem tdiv_pos {a : Int} (b : Int) (h : 0 ≤ a) : Int.tdiv a b = a / b := Int.tdiv_eq_ediv_of_nonneg h

/-! ### strings: equality of their bytes is equality -/
theorem toList_inj {a b : ByteArray} : a.toList = b.toList ↔ a = b := by
  rw [ByteArray.toList_eq, ByteArray.toList_eq, Array.toList_inj]
  exact ⟨fun h => ByteArray.ext h, fun h => by rw [h]⟩
theorem toList_nil {a : ByteArray} : a.toList = ([] : List UInt8) ↔ a.size = 0 := by
  rw [ByteArray.toList_eq]
  constructor
  · intro h
    have := congrArg List.length h
    rw [data_length] at this
    simpa using this
  · intro h
    exact List.eq_nil_of_length_eq_zero (by rw [data_length]; exact h)
theorem beq_toList {a b : ByteArray} : (a.toList == b.toList) = decide (a = b) := by
  rw [Bool.eq_iff_iff]
  simp [toList_inj]

/-! ### what a loop over a row still has before it -/
theorem rd_drop (xs : List Int) (i : Nat) (h : i < xs.length) : xs.drop i = rd xs i :: xs.drop (i + 1) := by
  rw [List.drop_eq_getElem_cons h]
  simp [rd, List.getD_eq_getElem?_getD, List.getElem?_eq_getElem h]
theorem rdOf_drop {α : Type} (d : α) (xs : List α) (i : Nat) (h : i < xs.length) : xs.drop i = rdOf d xs i :: xs.drop (i + 1) := by
  rw [List.drop_eq_getElem_cons h]
  simp [rdOf, List.getD_eq_getElem?_getD, List.getElem?_eq_getElem h]
theorem rdOf_at {α : Type} (d : α) (xs : List α) (i : Nat) (h : i < xs.length) : rdOf d xs i = xs[i] := by
  simp [rdOf, List.getD_eq_getElem?_getD, List.getElem?_eq_getElem h]
theorem rd_at (xs : List Int) (i : Nat) (h : i < xs.length) : rd xs i = xs[i] := by
  simp [rd, List.getD_eq_getElem?_getD, List.getElem?_eq_getElem h]
theorem bt_at' (s : ByteArray) (i : Nat) (h : i < s.data.toList.length) : bt s i = (s.data.toList[i].toNat : Int) := by
  have h' : i < s.size := by rw [← data_length]; exact h
  unfold bt
  simp [h']
  rfl
theorem bt_drop (s : ByteArray) (i : Nat) (h : i < s.size) : ∃ c : UInt8, bt s i = (c.toNat : Int) ∧ s.data.toList.drop i = c :: s.data.toList.drop (i + 1) := by
  have h' : i < s.data.toList.length := by rw [data_length]; exact h
  exact ⟨s.data.toList[i], bt_at' s i h', List.drop_eq_getElem_cons h'⟩

/-! ### digests -/
def bytesOk (l : List Int) : Bool := l.all fun x => decide (0 ≤ x) && decide (x ≤ 255)
theorem bytesOk_cons {x : Int} {l : List Int} : bytesOk (x :: l) = true ↔ (0 ≤ x ∧ x ≤ 255) ∧ bytesOk l = true := by simp [bytesOk]
theorem bytesOk_drop {l : List Int} (h : bytesOk l = true) (n : Nat) : bytesOk (l.drop n) = true := by
  simp only [bytesOk, List.all_eq_true] at h ⊢
  exact fun x hx => h x (List.mem_of_mem_drop hx)
def digStep (h b : Int) : Int := (h * 257 + b + 1) % 2305843009213693951
def dig (l : List Int) : Int := l.foldl digStep 1
theorem digStep_range (h b : Int) : 0 ≤ digStep h b ∧ digStep h b < 2305843009213693951 := by unfold digStep; omega
theorem dig_range (l : List Int) : 0 ≤ dig l ∧ dig l < 2305843009213693951 := by
  unfold dig
  have : ∀ (l : List Int) (h : Int), 0 ≤ h → h < 2305843009213693951 → 0 ≤ l.foldl digStep h ∧ l.foldl digStep h < 2305843009213693951 := by
    intro l
    induction l with
    | nil => intro h h0 h1; exact ⟨h0, h1⟩
    | cons b l ih => intro h _ _; exact ih _ (digStep_range h b).1 (digStep_range h b).2
  exact this l 1 (by omega) (by omega)
theorem dig_snoc (l : List Int) (b : Int) : dig (l ++ [b]) = digStep (dig l) b := by simp [dig, List.foldl_append]
def digPair (a b : Int) : Int := (a * 1000003 % 2305843009213693951 + b * 31 % 2305843009213693951 + 7) % 2305843009213693951
theorem digPair_range (a b : Int) : 0 ≤ digPair a b ∧ digPair a b < 2305843009213693951 := by unfold digPair; omega

/-! #### each step can be undone -/
theorem mulM_inv {a : Int} (k k' t : Int) (hk : k * k' = 1 + 2305843009213693951 * t) (h0 : 0 ≤ a) (h1 : a < 2305843009213693951) : (a * k % 2305843009213693951) * k' % 2305843009213693951 = a := by
  rw [Int.mul_emod, Int.emod_emod, ← Int.mul_emod, Int.mul_assoc, hk, Int.mul_add, Int.mul_one, Int.mul_left_comm, Int.add_mul_emod_self_left, Int.emod_eq_of_lt h0 h1]
theorem mulM_257 {a b : Int} (a0 : 0 ≤ a) (a1 : a < 2305843009213693951) (b0 : 0 ≤ b) (b1 : b < 2305843009213693951) (h : a * 257 % 2305843009213693951 = b * 257 % 2305843009213693951) : a = b := by
  have e := mulM_inv 257 1327878464449909357 148 (by decide) a0 a1
  rw [h, mulM_inv 257 1327878464449909357 148 (by decide) b0 b1] at e
  exact e.symm
theorem mulM_1000003 {a b : Int} (a0 : 0 ≤ a) (a1 : a < 2305843009213693951) (b0 : 0 ≤ b) (b1 : b < 2305843009213693951) (h : a * 1000003 % 2305843009213693951 = b * 1000003 % 2305843009213693951) : a = b := by
  have e := mulM_inv 1000003 1229363429801019168 533153 (by decide) a0 a1
  rw [h, mulM_inv 1000003 1229363429801019168 533153 (by decide) b0 b1] at e
  exact e.symm
theorem mulM_31 {a b : Int} (a0 : 0 ≤ a) (a1 : a < 2305843009213693951) (b0 : 0 ≤ b) (b1 : b < 2305843009213693951) (h : a * 31 % 2305843009213693951 = b * 31 % 2305843009213693951) : a = b := by
  have e := mulM_inv 31 2231460976658413501 30 (by decide) a0 a1
  rw [h, mulM_inv 31 2231460976658413501 30 (by decide) b0 b1] at e
  exact e.symm
theorem digStep_inj {a b c : Int} (a0 : 0 ≤ a) (a1 : a < 2305843009213693951) (b0 : 0 ≤ b) (b1 : b < 2305843009213693951) (h : digStep a c = digStep b c) : a = b := by
  unfold digStep at h
  rw [Int.add_assoc, Int.add_assoc, Int.emod_add_cancel_right] at h
  exact mulM_257 a0 a1 b0 b1 h
theorem digStep_last {a c d : Int} (c0 : 0 ≤ c) (c1 : c ≤ 255) (d0 : 0 ≤ d) (d1 : d ≤ 255) (h : digStep a c = digStep a d) : c = d := by
  unfold digStep at h
  generalize a * 257 = x at h
  omega
theorem digPair_right {a b c : Int} (b0 : 0 ≤ b) (b1 : b < 2305843009213693951) (c0 : 0 ≤ c) (c1 : c < 2305843009213693951) (h : digPair a b = digPair a c) : b = c := by
  have hb : 0 ≤ b * 31 % 2305843009213693951 ∧ b * 31 % 2305843009213693951 < 2305843009213693951 := by omega
  have hc : 0 ≤ c * 31 % 2305843009213693951 ∧ c * 31 % 2305843009213693951 < 2305843009213693951 := by omega
  refine mulM_31 b0 b1 c0 c1 ?_
  unfold digPair at h
  generalize a * 1000003 % 2305843009213693951 = x at *
  generalize b * 31 % 2305843009213693951 = y at *
  generalize c * 31 % 2305843009213693951 = z at *
  omega
theorem digPair_left {a b c : Int} (b0 : 0 ≤ b) (b1 : b < 2305843009213693951) (c0 : 0 ≤ c) (c1 : c < 2305843009213693951) (h : digPair b a = digPair c a) : b = c := by
  have hb : 0 ≤ b * 1000003 % 2305843009213693951 ∧ b * 1000003 % 2305843009213693951 < 2305843009213693951 := by omega
  have hc : 0 ≤ c * 1000003 % 2305843009213693951 ∧ c * 1000003 % 2305843009213693951 < 2305843009213693951 := by omega
  refine mulM_1000003 b0 b1 c0 c1 ?_
  unfold digPair at h
  generalize a * 31 % 2305843009213693951 = x at *
  generalize b * 1000003 % 2305843009213693951 = y at *
  generalize c * 1000003 % 2305843009213693951 = z at *
  omega
theorem byte_of_wf {x : Int} (h : (Lit.int .u8 x).wf = true) : 0 ≤ x ∧ x ≤ 255 := by
  simp [Lit.wf, IntKind.min, IntKind.max, IntKind.bits, IntKind.signed] at h
  omega
theorem bytesOk_of_wf {l : List Int} (h : ∀ x ∈ l, (Lit.int .u8 x).wf = true) : bytesOk l = true := by
  simp only [bytesOk, List.all_eq_true]
  intro x hx
  have := byte_of_wf (h x hx)
  simp [this]
theorem bytesOk_snoc {l : List Int} {c : Int} (h : bytesOk l = true) (hc : 0 ≤ c ∧ c ≤ 255) : bytesOk (l ++ [c]) = true := by
  simp only [bytesOk, List.all_append, Bool.and_eq_true]
  exact ⟨h, by simp [hc]⟩
theorem bytesOk_bytesOf (s : ByteArray) : bytesOk (bytesOf s) = true := by
  simp only [bytesOk, bytesOf, List.all_eq_true, List.mem_map]
  rintro x ⟨b, _, rfl⟩
  have := b.toNat_lt
  simp
  omega
theorem beq_iff_beq {α β : Type} [BEq α] [LawfulBEq α] [BEq β] [LawfulBEq β] {a b : α} {c d : β} (h : a = b ↔ c = d) : ((a == b) == (c == d)) = true := by
  by_cases e : a = b
  · rw [beq_iff_eq.mpr e, beq_iff_eq.mpr (h.mp e)]; rfl
  · rw [beq_eq_false_iff_ne.mpr e, beq_eq_false_iff_ne.mpr (fun x => e (h.mpr x))]; rfl
theorem strOfNums_inj {a b : List Int} (ha : bytesOk a = true) (hb : bytesOk b = true) : ((strOfNums a).toList == (strOfNums b).toList) = decide (a = b) := by
  rw [Lib.strOfNums_toList, Lib.strOfNums_toList]
  rw [Bool.eq_iff_iff, beq_iff_eq, decide_eq_true_iff]
  constructor
  · intro e
    have key : ∀ (a b : List Int), bytesOk a = true → bytesOk b = true → Lib.bytesOf a = Lib.bytesOf b → a = b := by
      intro a
      induction a with
      | nil => intro b _ _ e; cases b with
        | nil => rfl
        | cons y b => simp [Lib.bytesOf] at e
      | cons x a ih =>
        intro b ha hb e
        cases b with
        | nil => simp [Lib.bytesOf] at e
        | cons y b =>
          obtain ⟨⟨x0, x1⟩, ha'⟩ := bytesOk_cons.mp ha
          obtain ⟨⟨y0, y1⟩, hb'⟩ := bytesOk_cons.mp hb
          simp only [Lib.bytesOf, List.map_cons, List.cons.injEq] at e
          have e2 := congrArg UInt8.toNat e.1
          rw [UInt8.toNat_ofNat', UInt8.toNat_ofNat'] at e2
          rw [ih b ha' hb' e.2, show x = y by omega]
    exact key a b ha hb e
  · rintro rfl; rfl

/-! ### texts as lists of lines -/
def hasNl (s : ByteArray) : Bool := s.data.toList.contains 10
def faultAt : List ByteArray → Int → Int × Int
  | [], _ => (0, 0)
  | s :: r, i => if 80 < s.size then (2, i) else if hasNl s = true then (5, i) else faultAt r (i + 1)
def linesFault (l : List ByteArray) : Int × Int := if 120 < l.length then (2, -1) else faultAt l 0
theorem faultAt_or (l : List ByteArray) : ∀ i, faultAt l i = (0, 0) ∨ ¬ (faultAt l i).1 = 0 := by
  induction l with
  | nil => intro i; exact .inl rfl
  | cons s r ih =>
    intro i
    unfold faultAt
    split
    · exact .inr (by simp)
    · split
      · exact .inr (by simp)
      · exact ih _
theorem linesFault_or (l : List ByteArray) : linesFault l = (0, 0) ∨ ¬ (linesFault l).1 = 0 := by
  unfold linesFault
  split
  · exact .inr (by decide)
  · exact faultAt_or l 0
theorem linesFault_zero {l : List ByteArray} (h : (linesFault l).1 = 0) : linesFault l = (0, 0) := (linesFault_or l).resolve_right (fun h' => h' h)
/-- A line: at most 80 bytes, no newline. -/
def isLine (s : ByteArray) : Prop := s.size ≤ 80 ∧ hasNl s = false
theorem faultAt_ok {l : List ByteArray} {i : Int} : faultAt l i = (0, 0) ↔ ∀ s ∈ l, isLine s := by
  induction l generalizing i with
  | nil => simp [faultAt]
  | cons s r ih =>
    unfold faultAt
    by_cases h1 : 80 < s.size
    · simp [h1, isLine]; omega
    · by_cases h2 : hasNl s = true
      · simp [h1, h2, isLine]
      · rw [if_neg h1, if_neg h2, ih]
        simp only [List.mem_cons, forall_eq_or_imp]
        exact ⟨fun h => ⟨⟨by omega, by simpa using h2⟩, h⟩, fun h => h.2⟩
theorem linesFault_ok {l : List ByteArray} : linesFault l = (0, 0) ↔ l.length ≤ 120 ∧ ∀ s ∈ l, isLine s := by
  unfold linesFault
  by_cases h : 120 < l.length
  · simp [h]; omega
  · rw [if_neg h, faultAt_ok]
    exact ⟨fun h' => ⟨by omega, h'⟩, fun h' => h'.2⟩
/-- The fault of functions with two texts. -/
def twoFault (a b : List ByteArray) : Int × Int := if linesFault a = (0, 0) then (if (linesFault b).1 = 0 then (0, 0) else ((linesFault b).1, -2)) else linesFault a
theorem twoFault_or (a b : List ByteArray) : twoFault a b = (0, 0) ∨ ¬ (twoFault a b).1 = 0 := by
  unfold twoFault
  split
  · split
    · exact .inl rfl
    · rename_i h; exact .inr h
  · rename_i h
    exact (linesFault_or a)
theorem twoFault_ok {a b : List ByteArray} : twoFault a b = (0, 0) ↔ linesFault a = (0, 0) ∧ linesFault b = (0, 0) := by
  unfold twoFault
  by_cases ha : linesFault a = (0, 0)
  · rw [if_pos ha]
    by_cases hb : (linesFault b).1 = 0
    · rw [if_pos hb]; exact ⟨fun _ => ⟨ha, linesFault_zero hb⟩, fun _ => rfl⟩
    · rw [if_neg hb]
      exact ⟨fun h => absurd (congrArg Prod.fst h) hb, fun h => absurd (congrArg Prod.fst h.2) hb⟩
  · rw [if_neg ha]
    exact ⟨fun h => absurd h ha, fun h => absurd h.1 ha⟩
theorem fault_ne {f : Int × Int} (h : f = (0, 0) ∨ ¬ f.1 = 0) : (!(f.1 == 0) || (!(f.2 == 0))) = decide (¬ f = (0, 0)) := by
  rcases h with rfl | h
  · decide
  · have h2 : ¬ f = (0, 0) := fun e => h (congrArg Prod.fst e)
    simp [h, h2]

/-! ### a text of lines -/
def mkStr (l : List UInt8) : ByteArray := ⟨l.toArray⟩
theorem mkStr_toList (s : ByteArray) : mkStr s.data.toList = s := by unfold mkStr; rw [Array.toArray_toList]
theorem toList_mkStr (l : List UInt8) : (mkStr l).data.toList = l := rfl
theorem size_mkStr (l : List UInt8) : (mkStr l).size = l.length := by rw [← data_length]; rfl
theorem mkStr_inj {a b : List UInt8} : mkStr a = mkStr b ↔ a = b := ⟨fun h => by have := congrArg (fun s : ByteArray => s.data.toList) h; exact this, fun h => by rw [h]⟩
/-- What newlines part. -/
def splitNl : List UInt8 → List (List UInt8)
  | [] => [[]]
  | c :: r => if c = 10 then [] :: splitNl r else match splitNl r with
    | [] => [[c]]
    | h :: t => (c :: h) :: t
theorem splitNl_ne (l : List UInt8) : splitNl l ≠ [] := by
  cases l with
  | nil => simp [splitNl]
  | cons c r =>
    unfold splitNl
    split
    · simp
    · split <;> simp
def onHead (p : List UInt8) : List (List UInt8) → List (List UInt8)
  | [] => [p]
  | h :: t => (p ++ h) :: t
theorem onHead_nil {l : List (List UInt8)} (h : l ≠ []) : onHead [] l = l := by
  cases l with
  | nil => exact absurd rfl h
  | cons a t => rfl
theorem splitNl_cons_ne {c : UInt8} (r : List UInt8) (h : ¬ c = 10) : splitNl (c :: r) = onHead [c] (splitNl r) := by
  rw [splitNl, if_neg h]
  cases splitNl r <;> rfl
theorem onHead_onHead (p q : List UInt8) (l : List (List UInt8)) (h : l ≠ []) : onHead p (onHead q l) = onHead (p ++ q) l := by
  cases l with
  | nil => exact absurd rfl h
  | cons a t => simp [onHead]
theorem splitNl_length (l : List UInt8) : (splitNl l).length ≤ l.length + 1 := by
  induction l with
  | nil => simp [splitNl]
  | cons c r ih =>
    by_cases h : c = 10
    · rw [splitNl, if_pos h]; simp; omega
    · rw [splitNl_cons_ne r h]
      cases e : splitNl r with
      | nil => simp [onHead]
      | cons a t => rw [e] at ih; simp [onHead] at ih ⊢; omega
/-- The lines of a text: what newlines part, and what follows the last one if it is not empty. -/
def linesOf (l : List UInt8) : List (List UInt8) := if (splitNl l).getLast (splitNl_ne l) = [] then (splitNl l).dropLast else splitNl l
def textLines (s : ByteArray) : List ByteArray := (linesOf s.data.toList).map mkStr
def splitSpec (s : ByteArray) : List ByteArray × Int × Int := if 4096 < s.size then ([], 10, -1) else if linesFault (textLines s) = (0, 0) then (textLines s, 0, 0) else ([], linesFault (textLines s))
/-- Each line and a newline. -/
def joined : List ByteArray → List UInt8
  | [] => []
  | s :: r => s.data.toList ++ 10 :: joined r
def joinSpec (l : List ByteArray) : ByteArray × Int × Int := if linesFault l = (0, 0) then (if 4096 < (joined l).length then (mkStr [], 10, -1) else (mkStr (joined l), 0, 0)) else (mkStr [], linesFault l)
theorem joined_append (a b : List ByteArray) : joined (a ++ b) = joined a ++ joined b := by
  induction a with
  | nil => rfl
  | cons s r ih => simp [joined, ih]
theorem joined_length {l : List ByteArray} (h : ∀ s ∈ l, s.size ≤ 80) : (joined l).length ≤ 81 * l.length := by
  induction l with
  | nil => simp [joined]
  | cons s r ih =>
    have h1 := h s (by simp)
    have h2 := ih (fun x hx => h x (by simp [hx]))
    rw [← data_length] at h1
    simp only [joined, List.length_append, List.length_cons]
    omega
/-! ### small facts for walks by hand -/
theorem box_facts {w : World} {g : Nat} {x y : Value} {T : TypeId} (h : w.heap[g]? = some (.cells #[x, y] T (0, 0))) :
    w.cell? ⟨g, 0, none⟩ = some x ∧ w.cell? ⟨g, 1, none⟩ = some y ∧ w.frozen? ⟨g, 0, none⟩ = false ∧ w.frozen? ⟨g, 1, none⟩ = false ∧ g < w.heap.size :=
  ⟨by rw [Lib.cell_of_heap h]; rfl, by rw [Lib.cell_of_heap h]; rfl, Lib.frozen_of_heap h 0, Lib.frozen_of_heap h 1, blk_lt h⟩
def bv (l : List UInt8) : List Value := Lib.byteCells l
theorem bv_str (x : List UInt8) (s : ByteArray) : bv x ++ Lib.strCells s = bv (x ++ s.data.toList) := by simp [bv, Lib.byteCells, Lib.strCells]
theorem bv_nl (x : List UInt8) : bv x ++ [Value.int .u8 10] = bv (x ++ [10]) := by simp [bv, Lib.byteCells]
theorem bv_length (x : List UInt8) : (bv x).length = x.length := by simp [bv, Lib.byteCells]
theorem joined_take (l : List ByteArray) (i : Nat) (hi : i < l.length) : joined (l.take (i + 1)) = joined (l.take i) ++ (rdOf ByteArray.empty l (i : Int)).data.toList ++ [10] := by
  rw [List.take_succ_eq_append_getElem hi, joined_append, rdOf_at _ _ _ hi]
  simp [joined]
theorem indexByte_spec (l : List UInt8) (c : UInt8) : (Lib.indexByte l c = -1 ∧ c ∉ l) ∨ ∃ i : Nat, Lib.indexByte l c = i ∧ i < l.length ∧ c ∉ l.take i ∧ l[i]? = some c := by
  induction l with
  | nil => exact .inl ⟨rfl, by simp⟩
  | cons b r ih =>
    by_cases h : b = c
    · subst h; exact .inr ⟨0, by simp [Lib.indexByte], by simp, by simp, by simp⟩
    · have hb : (b == c) = false := by simpa using h
      rcases ih with ⟨h1, h2⟩ | ⟨i, h1, h2, h3, h4⟩
      · exact .inl ⟨by simp [Lib.indexByte, hb, h1], by simp [h2, Ne.symm h]⟩
      · refine .inr ⟨i + 1, ?_, by simp; omega, by simp [h3, Ne.symm h], by simpa using h4⟩
        have : ¬ ((i : Int) == -1) = true := by simp
        simp [Lib.indexByte, hb, h1, this]
theorem splitNl_cut (a r : List UInt8) (h : (10 : UInt8) ∉ a) : splitNl (a ++ 10 :: r) = a :: splitNl r := by
  induction a with
  | nil => simp [splitNl]
  | cons b t ih =>
    have hb : ¬ b = 10 := fun e => h (by simp [e])
    rw [List.cons_append, splitNl_cons_ne _ hb, ih (fun e => h (by simp [e]))]
    simp [onHead]
theorem splitNl_none (a : List UInt8) (h : (10 : UInt8) ∉ a) : splitNl a = [a] := by
  induction a with
  | nil => rfl
  | cons b t ih =>
    have hb : ¬ b = 10 := fun e => h (by simp [e])
    rw [splitNl_cons_ne _ hb, ih (fun e => h (by simp [e]))]
    simp [onHead]
theorem linesOf_nil : linesOf [] = [] := by simp [linesOf, splitNl]
theorem linesOf_none (a : List UInt8) (h : (10 : UInt8) ∉ a) (h0 : a ≠ []) : linesOf a = [a] := by
  have e := splitNl_none a h
  unfold linesOf
  simp only [e]
  simp [h0]
theorem linesOf_cut (a r : List UInt8) (h : (10 : UInt8) ∉ a) : linesOf (a ++ 10 :: r) = a :: linesOf r := by
  have e := splitNl_cut a r h
  have hne := splitNl_ne r
  unfold linesOf
  simp only [e]
  rw [List.getLast_cons hne]
  split
  · rw [List.dropLast_cons_of_ne_nil hne]
  · rfl
theorem trim_nl (a : List UInt8) : Lib.trimSuffix (a ++ [10]) [10] = a := by
  simp [Lib.trimSuffix, Lib.hasSuffix]
theorem trim_none (a : List UInt8) (h : (10 : UInt8) ∉ a) : Lib.trimSuffix a [10] = a := by
  have : Lib.hasSuffix a [10] = false := by
    rcases List.eq_nil_or_concat a with rfl | ⟨t, b, rfl⟩
    · rfl
    · simp at h
      have h3 : ¬ (10 : UInt8) = b := h.2
      simp only [Lib.hasSuffix, List.concat_eq_append]
      rw [Bool.eq_false_iff]
      intro e
      have e2 : [(10 : UInt8)] <:+ t ++ [b] := List.isSuffixOf_iff_suffix.1 e
      obtain ⟨q, hq⟩ := e2
      have := congrArg List.getLast? hq
      simp at this
      exact h3 this
  simp [Lib.trimSuffix, this]
end Go.Proofs.Ytifkadmljokffaa.Pre
