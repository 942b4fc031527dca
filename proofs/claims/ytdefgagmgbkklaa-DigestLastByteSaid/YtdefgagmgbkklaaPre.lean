/- Plain lemmas on numbers, bytes and lists, and the plain functions that the printed functions are shown to be. No program in sight. -/
import Derived.Test.YtdefgagmgbkklaaWWords
import Derived.Lib.Bytes
set_option linter.unusedVariables false
namespace Go.Proofs.Ytdefgagmgbkklaa.Pre
open Go.RowKit Go.Proofs.YtdefgagmgbkklaaW.PrintWords

/-! ### numbers -/
theorem w64 {n : Int} (h0 : -9223372036854775808 ≤ n) (h1 : n ≤ 9223372036854775807) : wrap64 n = n := by unfold wrap64; omega
theorem u64w (n : Int) : IntKind.u64.wrap n = n % 18446744073709551616 := by simp [IntKind.wrap, IntKind.bits, IntKind.signed]
theorem u64_in {n : Int} (h0 : 0 ≤ n) (h1 : n < 18446744073709551616) : IntKind.u64.wrap n = n := by rw [u64w]; omega
theorem tmod_pos {a : Int} (b : Int) (h : 0 ≤ a) : Int.tmod a b = a % b := Int.tmod_eq_emod_of_nonneg h
theorem tdiv_pos {a : Int} (b : Int) (h : 0 ≤ a) : Int.tdiv a b = a / b := Int.tdiv_eq_ediv_of_nonneg h

/-! ### strings: equality of their bytes is equality -/
theorem toList_inj {a b : ByteArray} : a.toList = b.toList ↔ a = b := by
  rw [ByteArray.toList_eq, ByteArray.toList_eq, Array.toList_inj]
  exact ⟨fun h => ByteArray.ext h, fun h => by rw [h]⟩
theorem toList_nil {a : ByteArray} : a.toList = ([] : List UInt8) ↔ a.size = 0 := by
  rw [ByteArray.toList_eq]
  constructor
  · intro h
    have := congrArg List.length h
    rw [data_length] at this
    simpa using this
  · intro h
    exact List.eq_nil_of_length_eq_zero (by rw [data_length]; exact h)
theorem beq_toList {a b : ByteArray} : (a.toList == b.toList) = decide (a = b) := by
  rw [Bool.eq_iff_iff]
  simp [toList_inj]

/-! ### what a loop over a row still has before it -/
theorem rd_drop (xs : List Int) (i : Nat) (h : i < xs.length) : xs.drop i = rd xs i :: xs.drop (i + 1) := by
  rw [List.drop_eq_getElem_cons h]
  simp [rd, List.getD_eq_getElem?_getD, List.getElem?_eq_getElem h]
theorem rdOf_drop {α : Type} (d : α) (xs : List α) (i : Nat) (h : i < xs.length) : xs.drop i = rdOf d xs i :: xs.drop (i + 1) := by
  rw [List.drop_eq_getElem_cons h]
  simp [rdOf, List.getD_eq_getElem?_getD, List.getElem?_eq_getElem h]
theorem rdOf_at {α : Type} (d : α) (xs : List α) (i : Nat) (h : i < xs.length) : rdOf d xs i = xs[i] := by
  simp [rdOf, List.getD_eq_getElem?_getD, List.getElem?_eq_getElem h]
theorem rd_at (xs : List Int) (i : Nat) (h : i < xs.length) : rd xs i = xs[i] := by
  simp [rd, List.getD_eq_getElem?_getD, List.getElem?_eq_getElem h]
theorem bt_at' (s : ByteArray) (i : Nat) (h : i < s.data.toList.length) : bt s i = (s.data.toList[i].toNat : Int) := by
  have h' : i < s.size := by rw [← data_length]; exact h
  unfold bt
  simp [h']
  rfl
theorem bt_drop (s : ByteArray) (i : Nat) (h : i < s.size) : ∃ c : UInt8, bt s i = (c.toNat : Int) ∧ s.data.toList.drop i = c :: s.data.toList.drop (i + 1) := by
  have h' : i < s.data.toList.length := by rw [data_length]; exact h
  exact ⟨s.data.toList[i], bt_at' s i h', List.drop_eq_getElem_cons h'⟩

/-! ### digests -/
def bytesOk (l : List Int) : Bool := l.all fun x => decide (0 ≤ x) && decide (x ≤ 255)
theorem bytesOk_cons {x : Int} {l : List Int} : bytesOk (x :: l) = true ↔ (0 ≤ x ∧ x ≤ 255) ∧ bytesOk l = true := by simp [bytesOk]
theorem bytesOk_drop {l : List Int} (h : bytesOk l = true) (n : Nat) : bytesOk (l.drop n) = true := by
  simp only [bytesOk, List.all_eq_true] at h ⊢
  exact fun x hx => h x (List.mem_of_mem_drop hx)
def digStep (h b : Int) : Int := (h * 257 + b + 1) % 2305843009213693951
def dig (l : List Int) : Int := l.foldl digStep 1
theorem digStep_range (h b : Int) : 0 ≤ digStep h b ∧ digStep h b < 2305843009213693951 := by unfold digStep; omega
theorem dig_range (l : List Int) : 0 ≤ dig l ∧ dig l < 2305843009213693951 := by
  unfold dig
  have : ∀ (l : List Int) (h : Int), 0 ≤ h → h < 2305843009213693951 → 0 ≤ l.foldl digStep h ∧ l.foldl digStep h < 2305843009213693951 := by
    intro l
    induction l with
    | nil => intro h h0 h1; exact ⟨h0, h1⟩
    | cons b l ih => intro h _ _; exact ih _ (digStep_range h b).1 (digStep_range h b).2
  exact this l 1 (by omega) (by omega)
theorem dig_snoc (l : List Int) (b : Int) : dig (l ++ [b]) = digStep (dig l) b := by simp [dig, List.foldl_append]
def digPair (a b : Int) : Int := (a * 1000003 % 2305843009213693951 + b * 31 % 2305843009213693951 + 7) % 2305843009213693951
theorem digPair_range (a b : Int) : 0 ≤ digPair a b ∧ digPair a b < 2305843009213693951 := by unfold digPair; omega

/-! #### each step can be undone -/
theorem mulM_inv {a : Int} (k k' t : Int) (hk : k * k' = 1 + 2305843009213693951 * t) (h0 : 0 ≤ a) (h1 : a < 2305843009213693951) : (a * k % 2305843009213693951) * k' % 2305843009213693951 = a := by
  rw [Int.mul_emod, Int.emod_emod, ← Int.mul_emod, Int.mul_assoc, hk, Int.mul_add, Int.mul_one, Int.mul_left_comm, Int.add_mul_emod_self_left, Int.emod_eq_of_lt h0 h1]
theorem mulM_257 {a b : Int} (a0 : 0 ≤ a) (a1 : a < 2305843009213693951) (b0 : 0 ≤ b) (b1 : b < 2305843009213693951) (h : a * 257 % 2305843009213693951 = b * 257 % 2305843009213693951) : a = b := by
  have e := mulM_inv 257 1327878464449909357 148 (by decide) a0 a1
  rw [h, mulM_inv 257 1327878464449909357 148 (by decide) b0 b1] at e
  exact e.symm
theorem mulM_1000003 {a b : Int} (a0 : 0 ≤ a) (a1 : a < 2305843009213693951) (b0 : 0 ≤ b) (b1 : b < 2305843009213693951) (h : a * 1000003 % 2305843009213693951 = b * 1000003 % 2305843009213693951) : a = b := by
  have e := mulM_inv 1000003 1229363429801019168 533153 (by decide) a0 a1
  rw [h, mulM_inv 1000003 1229363429801019168 533153 (by decide) b0 b1] at e
  exact e.symm
theorem mulM_31 {a b : Int} (a0 : 0 ≤ a) (a1 : a < 2305843009213693951) (b0 : 0 ≤ b) (b1 : b < 2305843009213693951) (h : a * 31 % 2305843009213693951 = b * 31 % 2305843009213693951) : a = b := by
  have e := mulM_inv 31 2231460976658413501 30 (by decide) a0 a1
  rw [h, mulM_inv 31 2231460976658413501 30 (by decide) b0 b1] at e
  exact e.symm
theorem digStep_inj {a b c : Int} (a0 : 0 ≤ a) (a1 : a < 2305843009213693951) (b0 : 0 ≤ b) (b1 : b < 2305843009213693951) (h : digStep a c = digStep b c) : a = b := by
  unfold digStep at h
  rw [Int.add_assoc, Int.add_assoc, Int.emod_add_cancel_right] at h
  exact mulM_257 a0 a1 b0 b1 h
theorem digStep_last {a c d : Int} (c0 : 0 ≤ c) (c1 : c ≤ 255) (d0 : 0 ≤ d) (d1 : d ≤ 255) (h : digStep a c = digStep a d) : c = d := by
  unfold digStep at h
  generalize a * 257 = x at h
  omega
theorem digPair_right {a b c : Int} (b0 : 0 ≤ b) (b1 : b < 2305843009213693951) (c0 : 0 ≤ c) (c1 : c < 2305843009213693951) (h : digPair a b = digPair a c) : b = c := by
  have hb : 0 ≤ b * 31 % 2305843009213693951 ∧ b * 31 % 2305843009213693951 < 2305843009213693951 := by omega
  have hc : 0 ≤ c * 31 % 2305843009213693951 ∧ c * 31 % 2305843009213693951 < 2305843009213693951 := by omega
  refine mulM_31 b0 b1 c0 c1 ?_
  unfold digPair at h
  generalize a * 1000003 % 2305843009213693951 = x at *
  generalize b * 31 % 2305843009213693951 = y at *
  generalize c * 31 % 2305843009213693951 = z at *
  omega
theorem digPair_left {a b c : Int} (b0 : 0 ≤ b) (b1 : b < 2305843009213693951) (c0 : 0 ≤ c) (c1 : c < 2305843009213693951) (h : digPair b a = digPair c a) : b = c := by
  have hb : 0 ≤ b * 1000003 % 2305843009213693951 ∧ b * 1000003 % 2305843009213693951 < 2305843009213693951 := by omega
  have hc : 0 ≤ c * 1000003 % 2305843009213693951 ∧ c * 1000003 % 2305843009213693951 < 2305843009213693951 := by omega
  refine mulM_1000003 b0 b1 c0 c1 ?_
  unfold digPair at h
  generalize a * 31 % 2305843009213693951 = x at *
  generalize b * 1000003 % 2305843009213693951 = y at *
  generalize c * 1000003 % 2305843009213693951 = z at *
  omega
theorem byte_of_wf {x : Int} (h : (Lit.int .u8 x).wf = true) : 0 ≤ x ∧ x ≤ 255 := by
  simp [Lit.wf, IntKind.min, IntKind.max, IntKind.bits, IntKind.signed] at h
  omega
theorem bytesOk_of_wf {l : List Int} (h : ∀ x ∈ l, (Lit.int .u8 x).wf = true) : bytesOk l = true := by
  simp only [bytesOk, List.all_eq_true]
  intro x hx
  have := byte_of_wf (h x hx)
  simp [this]
theorem bytesOk_snoc {l : List Int} {c : Int} (h : bytesOk l = true) (hc : 0 ≤ c ∧ c ≤ 255) : bytesOk (l ++ [c]) = true := by
  simp only [bytesOk, List.all_append, Bool.and_eq_true]
  exact ⟨h, by simp [hc]⟩
theorem bytesOk_bytesOf (s : ByteArray) : bytesOk (bytesOf s) = true := by
  simp only [bytesOk, bytesOf, List.all_eq_true, List.mem_map]
  rintro x ⟨b, _, rfl⟩
  have := b.toNat_lt
  simp
  omega
theorem beq_iff_beq {α β : Type} [BEq α] [LawfulBEq α] [BEq β] [LawfulBEq β] {a b : α} {c d : β} (h : a = b ↔ c = d) : ((a == b) == (c == d)) = true := by
  by_cases e : a = b
  · rw [beq_iff_eq.mpr e, beq_iff_eq.mpr (h.mp e)]; rfl
  · rw [beq_eq_false_iff_ne.mpr e, beq_eq_false_iff_ne.mpr (fun x => e (h.mpr x))]; rfl
theorem strOfNums_inj {a b : List Int} (ha : bytesOk a = true) (hb : bytesOk b = true) : ((strOfNums a).toList == (strOfNums b).toList) = decide (a = b) := by
  rw [Lib.strOfNums_toList, Lib.strOfNums_toList]
  rw [Bool.eq_iff_iff, beq_iff_eq, decide_eq_true_iff]
  constructor
  · intro e
    have key : ∀ (a b : List Int), bytesOk a = true → bytesOk b = true → Lib.bytesOf a = Lib.bytesOf b → a = b := by
      intro a
      induction a with
      | nil => intro b _ _ e; cases b with
        | nil => rfl
        | cons y b => simp [Lib.bytesOf] at e
      | cons x a ih =>
        intro b ha hb e
        cases b with
        | nil => simp [Lib.bytesOf] at e
        | cons y b =>
          obtain ⟨⟨x0, x1⟩, ha'⟩ := bytesOk_cons.mp ha
          obtain ⟨⟨y0, y1⟩, hb'⟩ := bytesOk_cons.mp hb
          simp only [Lib.bytesOf, List.map_cons, List.cons.injEq] at e
          have e2 := congrArg UInt8.toNat e.1
          rw [UInt8.toNat_ofNat', UInt8.toNat_ofNat'] at e2
          rw [ih b ha' hb' e.2, show x = y by omega]
    exact key a b ha hb e
  · rintro rfl; rfl

/-! ### texts as lists of lines -/
def hasNl (s : ByteArray) : Bool := s.data.toList.contains 10
def faultAt : List ByteArray → Int → Int × Int
  | [], _ => (0, 0)
  | s :: r, i => if 80 < s.size then (2, i) else if hasNl s = true then (5, i) else faultAt r (i + 1)
def linesFault (l : List ByteArray) : Int × Int := if 120 < l.length then (2, -1) else faultAt l 0
end Go.Proofs.Ytdefgagmgbkklaa.Pre
