/- Printed by a program of this session out of the translation: Lean functions for Go functions, and proofs that the Go functions answer the same. -/
import Derived.Test.YtdefgagmgbkklaaPC0
import Derived.Test.YtdefgagmgbkklaaPC1
namespace Go.Proofs.Ytdefgagmgbkklaa.PC
open Go.RowKit Go.Proofs.Ytdefgagmgbkklaa.Pre Go.Proofs.YtdefgagmgbkklaaW.PrintWords Go.Proofs.YtdefgagmgbkklaaW.PrintLast Go.Proofs.YtdefgagmgbkklaaW.PrintMore
attribute [local go_sem] max2_int min2_int max_two min_two max_three min_three max_four min_four   -- for this text's walks alone
set_option linter.unusedVariables false
set_option linter.unusedSimpArgs false

attribute [local go_sem high] eqA24
/-! ### changeforgeequal_Strings_0: function 31 -/
def changeforgeequal_Strings_0.l0 : Nat → List ByteArray → List ByteArray → Int → Option (Bool)
  | 0, _, _, _ => none
  | k + 1, x0, x1, x5 => if x5 < (x0.length : Int) then (if 0 ≤ x5 then (if x5 < (x1.length : Int) then (if (rdOf ByteArray.empty x0 x5).toList = (rdOf ByteArray.empty x1 x5).toList then (changeforgeequal_Strings_0.l0 k x0 x1 (wrap64 (x5 + 1))) else (some false)) else (none)) else (none)) else (some true)
def changeforgeequal_Strings_0.f (k : Nat) (l0 : List ByteArray) (l1 : List ByteArray) : Option (Bool) := if (l0.length : Int) = (l1.length : Int) then (changeforgeequal_Strings_0.l0 k l0 l1 0) else (some false)
theorem changeforgeequal_Strings_0.mono_l : ∀ k, (∀ y0 y1 y2, LeO (changeforgeequal_Strings_0.l0 k y0 y1 y2) (changeforgeequal_Strings_0.l0 (k + 1) y0 y1 y2))
  | 0 => fun _ _ _ r h => by simp [changeforgeequal_Strings_0.l0] at h
  | k + 1 => by
    have ih0 := changeforgeequal_Strings_0.mono_l k
    · intro y0 y1 y2
      unfold changeforgeequal_Strings_0.l0
      repeat' first
      | (with_reducible exact ih0 _ _ _)
      | (with_reducible exact LeO.refl _)
      | (with_reducible exact LeO.none _)
      | (with_reducible refine LeO.ite ?_ ?_)
      | (with_reducible refine LeO.bind ?_ (fun _ => ?_))
      | exact ih0 _ _ _
      | exact LeO.none _
      | refine LeO.ite ?_ ?_
      | refine LeO.bind ?_ (fun _ => ?_)
theorem changeforgeequal_Strings_0.mono : ∀ a0 a1 k, LeO (changeforgeequal_Strings_0.f k a0 a1) (changeforgeequal_Strings_0.f (k + 1) a0 a1) := by
  intro a0 a1 k
  have ih0 := changeforgeequal_Strings_0.mono_l k
  unfold changeforgeequal_Strings_0.f
  repeat' first
      | (with_reducible exact ih0 _ _ _)
      | (with_reducible exact LeO.refl _)
      | (with_reducible exact LeO.none _)
      | (with_reducible refine LeO.ite ?_ ?_)
      | (with_reducible refine LeO.bind ?_ (fun _ => ?_))
      | exact ih0 _ _ _
      | exact LeO.none _
      | refine LeO.ite ?_ ?_
      | refine LeO.bind ?_ (fun _ => ?_)
set_option maxHeartbeats 8000000 in
set_option maxRecDepth 100000 in
theorem changeforgeequal_Strings_0.calls (k : Nat) (A0 : Option Addr) (c0 : Nat) (l0 : List ByteArray) (A1 : Option Addr) (c1 : Nat) (l1 : List ByteArray) (r : Bool) (w : World) (hr0 : Kd.C Kd.string w A0 l0.length l0) (hc0 : l0.length ≤ c0) (hr1 : Kd.C Kd.string w A1 l1.length l1) (hc1 : l1.length ≤ c1) (h : changeforgeequal_Strings_0.f k l0 l1 = some r) :
    Calls Try.prog 31 #[.slice A0 l0.length c0, .slice A1 l1.length c1] w fun e w' => e = .returned (.bool r) ∧ Drawn0 w w' := by
  have HR0 := Aside0.mk hr0;have HC0 := Aside0.mk hc0;clear hr0 hc0;have HR1 := Aside0.mk hr1;have HC1 := Aside0.mk hc1;clear hr1 hc1;have H : (if (l0.length : Int) = (l1.length : Int) then (changeforgeequal_Strings_0.l0 k l0 l1 0) else (some false)) = some r := h;clear h
  by_cases c3 : (l0.length : Int) = (l1.length : Int)
  · rw [if_pos c3] at H;have c3b0 : ((l0.length : Int) == (l1.length : Int)) = true := beq_iff_eq.mpr c3;have c3b1 : ((l0.length : Int) != (l1.length : Int)) = false := bne_eq_false_iff_eq.mpr c3;have c3b2 : (l0.length == l1.length) = true := (by first|simpa using c3|(simp at c3 ⊢;omega));clear c3;have H' := Aside0.mk H;clear H
    go_enter Try.func31, Try.ntmps31
    go_wp2
    repeat (go_quiet (fail);try go_wp2)
    go_loopg [5] k (fun kq v5 w' => ∃ (x5_1 : Int), v5 = .int .i64 x5_1 ∧ Aside0 (changeforgeequal_Strings_0.l0 kq l0 l1 x5_1 = some r) ∧ Aside0 (kq ≤ k) ∧ Drawn0 w w')
    case atStart => exact ⟨(0), (by first|rfl|(simp only [i64_w, i32_w];done)|(simp only [i64_w, i32_w];rfl)|(simp;done)|(simp [*];done)), H', ⟨Nat.le_refl _⟩, by repeat (first|exact Drawn0.refl _|apply Drawn0.step)⟩
    case round =>
      clear H'
      try clear c1
      try clear p2
      try clear c3
      try clear c3b0
      try clear c3b1
      try clear c3b2
      obtain ⟨x5_1, rfl, HA, HK1, ⟨m1, rfl⟩⟩ := hrel
      cases gk with
      | zero => exact absurd HA.out (by simp [changeforgeequal_Strings_0.l0])
      | succ k1 =>
        have H := HA.out;clear HA;simp only [changeforgeequal_Strings_0.l0] at H
        by_cases c4 : x5_1 < (l0.length : Int)
        · rw [if_pos c4] at H;have c4b0 : decide (x5_1 < (l0.length : Int)) = true := decide_eq_true c4;clear c4
          by_cases c5 : 0 ≤ x5_1
          · rw [if_pos c5] at H;have c5b0 : decide (0 ≤ x5_1) = true := decide_eq_true c5;clear c5
            by_cases c6 : x5_1 < (l1.length : Int)
            · rw [if_pos c6] at H;have c6b0 : decide (x5_1 < (l1.length : Int)) = true := decide_eq_true c6;clear c6
              by_cases c7 : (rdOf ByteArray.empty l0 x5_1).toList = (rdOf ByteArray.empty l1 x5_1).toList
              · rw [if_pos c7] at H;have c7b0 : ((rdOf ByteArray.empty l0 x5_1).toList == (rdOf ByteArray.empty l1 x5_1).toList) = true := beq_iff_eq.mpr c7;have c7b1 : ((rdOf ByteArray.empty l0 x5_1).toList != (rdOf ByteArray.empty l1 x5_1).toList) = false := bne_eq_false_iff_eq.mpr c7;clear c7;have H' := Aside0.mk H;clear H;have p101 : 0 ≤ (x5_1 : Int) := dA;have q101 : x5_1 < (l0.length : Int) := dA;obtain ⟨ad101, e101, hx101_0⟩ := Kd.at_string HR0.out x5_1 p101 q101
                cases e101
                replace p101 := eq_true p101;replace q101 := eq_true q101;have p102 : 0 ≤ (x5_1 : Int) := dA;have q102 : x5_1 < (l1.length : Int) := dA;obtain ⟨ad102, e102, hx102_0⟩ := Kd.at_string HR1.out x5_1 p102 q102
                cases e102
                replace p102 := eq_true p102;replace q102 := eq_true q102
                go_wp2
                repeat (go_quiet (fail);try go_wp2)
                go_roundg k1
                case measure => have := HK1.out;omega
                case rel => exact ⟨(wrap64 (x5_1 + 1)), (by first|rfl|(simp only [i64_w, i32_w];done)|(simp only [i64_w, i32_w];rfl)|(simp;done)|(simp [*];done)), H', ⟨by have := HK1.out;omega⟩, by repeat (first|exact Drawn0.refl _|apply Drawn0.step)⟩
              · rw [if_neg c7] at H;have c7b0 : ((rdOf ByteArray.empty l0 x5_1).toList == (rdOf ByteArray.empty l1 x5_1).toList) = false := beq_eq_false_iff_ne.mpr c7;have c7b1 : ((rdOf ByteArray.empty l0 x5_1).toList != (rdOf ByteArray.empty l1 x5_1).toList) = true := bne_iff_ne.mpr c7;obtain rfl := Option.some.inj H;have p101 : 0 ≤ (x5_1 : Int) := dA;have q101 : x5_1 < (l0.length : Int) := dA;obtain ⟨ad101, e101, hx101_0⟩ := Kd.at_string HR0.out x5_1 p101 q101
                cases e101
                replace p101 := eq_true p101;replace q101 := eq_true q101;have p102 : 0 ≤ (x5_1 : Int) := dA;have q102 : x5_1 < (l1.length : Int) := dA;obtain ⟨ad102, e102, hx102_0⟩ := Kd.at_string HR1.out x5_1 p102 q102
                cases e102
                replace p102 := eq_true p102;replace q102 := eq_true q102
                go_wp2
                repeat (go_quiet (fail);try go_wp2)
                go_ret
                exact ⟨by first|rfl|(simp;done)|(simp [*];done), by repeat (first|exact Drawn0.refl _|apply Drawn0.step)⟩
            · rw [if_neg c6] at H;exact absurd H (by simp)
          · rw [if_neg c5] at H;exact absurd H (by simp)
        · rw [if_neg c4] at H;have c4b0 : decide (x5_1 < (l0.length : Int)) = false := decide_eq_false c4;clear c4;obtain rfl := Option.some.inj H
          go_wp2
          repeat (go_quiet (fail);try go_wp2)
          go_ret
          exact ⟨by first|rfl|(simp;done)|(simp [*];done), by repeat (first|exact Drawn0.refl _|apply Drawn0.step)⟩
  · rw [if_neg c3] at H;have c3b0 : ((l0.length : Int) == (l1.length : Int)) = false := beq_eq_false_iff_ne.mpr c3;have c3b1 : ((l0.length : Int) != (l1.length : Int)) = true := bne_iff_ne.mpr c3;have c3b2 : (l0.length == l1.length) = false := (by first|simpa using c3|(simp at c3 ⊢;omega));obtain rfl := Option.some.inj H
    go_enter Try.func31, Try.ntmps31
    go_wp2
    repeat (go_quiet (fail);try go_wp2)
    go_ret
    exact ⟨by first|rfl|(simp;done)|(simp [*];done), by repeat (first|exact Drawn0.refl _|apply Drawn0.step)⟩

/-! ### changeforgeequal_Strings: function 31 -/
theorem changeforgeequal_Strings_0.loop (a b : List ByteArray) (hl : a.length = b.length) (hm : a.length ≤ 9223372036854775807) (d : Nat) : ∀ (k i : Nat), i ≤ a.length → a.length - i = d → d < k →
    changeforgeequal_Strings_0.l0 k a b (i : Int) = some (decide (a.drop i = b.drop i)) := by
  induction d with
  | zero =>
    intro k i hi hd hk
    obtain ⟨k, rfl⟩ : ∃ m, k = m + 1 := ⟨k - 1, by omega⟩
    simp only [changeforgeequal_Strings_0.l0]
    rw [if_neg (by omega), List.drop_eq_nil_of_le (by omega), List.drop_eq_nil_of_le (by omega)]
    rfl
  | succ d ih =>
    intro k i hi hd hk
    obtain ⟨k, rfl⟩ : ∃ m, k = m + 1 := ⟨k - 1, by omega⟩
    rw [rdOf_drop ByteArray.empty a i (by omega), rdOf_drop ByteArray.empty b i (by omega)]
    simp only [changeforgeequal_Strings_0.l0]
    rw [if_pos (by omega), if_pos (by omega), if_pos (by omega)]
    by_cases e : rdOf ByteArray.empty a (i : Int) = rdOf ByteArray.empty b (i : Int)
    · rw [if_pos (toList_inj.mpr e), w64 (by omega) (by omega)]
      have := ih k (i + 1) (by omega) (by omega) (by omega)
      rw [Int.natCast_add] at this
      rw [show (((1 : Nat) : Int)) = 1 from rfl] at this
      rw [this, e]
      simp
    · rw [if_neg (fun h => e (toList_inj.mp h))]
      simp [e]
def changeforgeequal_Strings.f (l0 : List ByteArray) (l1 : List ByteArray) : Option (Bool) :=  some (decide (l0 = l1))
theorem changeforgeequal_Strings.calls (A0 : Option Addr) (c0 : Nat) (l0 : List ByteArray) (A1 : Option Addr) (c1 : Nat) (l1 : List ByteArray) (r : Bool) (w : World) (hr0 : Kd.C Kd.string w A0 l0.length l0) (hc0 : l0.length ≤ c0) (hr1 : Kd.C Kd.string w A1 l1.length l1) (hc1 : l1.length ≤ c1) (h : changeforgeequal_Strings.f l0 l1 = some r) :
    Calls Try.prog 31 #[.slice A0 l0.length c0, .slice A1 l1.length c1] w fun e w' => e = .returned (.bool r) ∧ Drawn0 w w' := by
  have hm : l0.length ≤ 9223372036854775807 := hr0.2.1
  have h' : changeforgeequal_Strings_0.f (l0.length + 1) l0 l1 = some r := by
    rw [← h]
    unfold changeforgeequal_Strings_0.f changeforgeequal_Strings.f
    by_cases c : l0.length = l1.length
    · rw [if_pos (by omega)]
      have := changeforgeequal_Strings_0.loop l0 l1 c hm l0.length (l0.length + 1) 0 (by omega) (by omega) (by omega)
      simpa using this
    · rw [if_neg (by omega)]
      have : ¬ l0 = l1 := fun e => c (by rw [e])
      simp [this]
  exact (changeforgeequal_Strings_0.calls (l0.length + 1) A0 c0 l0 A1 c1 l1 r w hr0 hc0 hr1 hc1 (h'))


/-! ### strings_ContainsRune: function 44 -/
theorem indexByte_ge (c : UInt8) : ∀ l : List UInt8, decide (0 ≤ Lib.indexByte l c) = l.contains c ∧ -1 ≤ Lib.indexByte l c
  | [] => ⟨by simp [Lib.indexByte], by simp [Lib.indexByte]⟩
  | b :: l => by
    obtain ⟨ih1, ih2⟩ := indexByte_ge c l
    unfold Lib.indexByte
    by_cases h : b = c
    · subst h; simp
    · have hb : (b == c) = false := by simpa using h
      have hc : (c == b) = false := by simpa using fun e => h e.symm
      by_cases h2 : Lib.indexByte l c = -1
      · rw [h2] at ih1
        simp [h, h2] at ih1 ⊢
        exact ⟨fun e => h e.symm, ih1⟩
      · have h3 : (Lib.indexByte l c == -1) = false := by simpa using h2
        simp only [hb, h3, Bool.false_eq_true, if_false, List.contains_cons, hc, Bool.false_or]
        rw [← ih1]
        exact ⟨by rw [Bool.eq_iff_iff]; simp; omega, by omega⟩
def strings_ContainsRune.f (a0 : ByteArray) (a1 : Int) : Option (Bool) :=  if a1 = 10 then some (hasNl a0) else none
theorem strings_ContainsRune.calls (a0 : ByteArray) (a1 : Int) (r : Bool) (w : World) (h : strings_ContainsRune.f a0 a1 = some r) :
    Calls Try.prog 44 #[.string a0, .int .i32 a1] w fun e w' => e = .returned (.bool r) ∧ Drawn0 w w' := by
  unfold strings_ContainsRune.f at h
  split at h
  · rename_i e
    subst e
    obtain rfl := Option.some.inj h
    refine (Go.Proofs.Try.strings_ContainsRune_ascii a0 10 w (by omega) (by omega)).mono ?_
    rintro e w' ⟨rfl, rfl⟩
    refine ⟨?_, Drawn0.refl _⟩
    have e10 : (10 : Int).toNat.toUInt8 = 10 := by decide
    rw [e10, (indexByte_ge 10 a0.data.toList).1]
    rfl
  · cases h


/-! ### lines_Validate_0: function 29 -/
def lines_Validate_0.l0 : Nat → List ByteArray → Int → Int → Option (Int × Int)
  | 0, _, _, _ => none
  | k + 1, x9, x10, x11 => if x11 < x10 then (if 0 ≤ x11 then (if x11 < (x9.length : Int) then (if ((rdOf ByteArray.empty x9 x11).size : Int) > 80 then (some (2, x11)) else ((strings_ContainsRune.f (rdOf ByteArray.empty x9 x11) 10).bind fun t105 => (if t105 = true then (some (5, x11)) else (lines_Validate_0.l0 k x9 x10 (wrap64 (x11 + 1)))))) else (none)) else (none)) else (some (0, 0))
def lines_Validate_0.f (k : Nat) (l0 : List ByteArray) : Option (Int × Int) := if (l0.length : Int) > 120 then (some (2, (-1))) else (lines_Validate_0.l0 k l0 (l0.length : Int) 0)
theorem lines_Validate_0.mono_l : ∀ k, (∀ y0 y1 y2, LeO (lines_Validate_0.l0 k y0 y1 y2) (lines_Validate_0.l0 (k + 1) y0 y1 y2))
  | 0 => fun _ _ _ r h => by simp [lines_Validate_0.l0] at h
  | k + 1 => by
    have ih0 := lines_Validate_0.mono_l k
    · intro y0 y1 y2
      unfold lines_Validate_0.l0
      repeat' first
      | (with_reducible exact ih0 _ _ _)
      | (with_reducible exact LeO.refl _)
      | (with_reducible exact LeO.none _)
      | (with_reducible refine LeO.ite ?_ ?_)
      | (with_reducible refine LeO.bind ?_ (fun _ => ?_))
      | exact ih0 _ _ _
      | exact LeO.none _
      | refine LeO.ite ?_ ?_
      | refine LeO.bind ?_ (fun _ => ?_)
theorem lines_Validate_0.mono : ∀ a0 k, LeO (lines_Validate_0.f k a0) (lines_Validate_0.f (k + 1) a0) := by
  intro a0 k
  have ih0 := lines_Validate_0.mono_l k
  unfold lines_Validate_0.f
  repeat' first
      | (with_reducible exact ih0 _ _ _)
      | (with_reducible exact LeO.refl _)
      | (with_reducible exact LeO.none _)
      | (with_reducible refine LeO.ite ?_ ?_)
      | (with_reducible refine LeO.bind ?_ (fun _ => ?_))
      | exact ih0 _ _ _
      | exact LeO.none _
      | refine LeO.ite ?_ ?_
      | refine LeO.bind ?_ (fun _ => ?_)
set_option maxHeartbeats 8000000 in
set_option maxRecDepth 100000 in
theorem lines_Validate_0.calls (k : Nat) (A0 : Option Addr) (c0 : Nat) (l0 : List ByteArray) (r1 : Int) (r2 : Int) (w : World) (hr0 : Kd.C Kd.string w A0 l0.length l0) (hc0 : l0.length ≤ c0) (h : lines_Validate_0.f k l0 = some (r1, r2)) :
    Calls Try.prog 29 #[.slice A0 l0.length c0] w fun e w' => e = .returned (.agg #[.int .i64 r1, .int .i64 r2]) ∧ Below w.heap.size w w' := by
  have hu24 := Try.underlying24;have HR0 := Aside0.mk hr0;have HC0 := Aside0.mk hc0;clear hr0 hc0;have HB := Aside0.mk (Below.refl w.heap.size w);have H : (if (l0.length : Int) > 120 then (some (2, (-1))) else (lines_Validate_0.l0 k l0 (l0.length : Int) 0)) = some (r1, r2) := h;clear h
  by_cases c2 : (l0.length : Int) > 120
  · rw [if_pos c2] at H;have c2b0 : decide (120 < (l0.length : Int)) = true := decide_eq_true c2;have c2b1 : decide (120 < l0.length) = true := decide_eq_true (by omega);clear c2;simp only [Option.some.injEq, Prod.mk.injEq] at H;obtain ⟨rfl, rfl⟩ := H
    go_enter Try.func29, Try.ntmps29
    go_wp2_with (first|((with_reducible refine gate_dst (N := 2) rfl ?_);refine bE 2 #[.int .i64 0, .int .i64 0] 24 ?_;intro gb103 hg w3 hbox hb;have BK103 := Aside0.mk (hbox);have GW103 := gBe HB hg;have GE103 := gBe HB hg;replace HB := sBe HB hb;clear hb hbox hg;have hcz4_0 := hC BK103 0 (.int .i64 0);have hcz4_1 := hC BK103 1 (.int .i64 0);have hfz4_0 := blk_frozen BK103.out 0;have hfz4_1 := blk_frozen BK103.out 1))
    refine bodyPost_ret (results_cell_row rfl _ _ gb103 24 #[.int .i64 2, .int .i64 (-1)] (0, 0) _ rfl kK Try.underlying24 rfl (by kernel_rfl)) rfl ?_;exact ⟨rW, eB⟩
  · rw [if_neg c2] at H;have c2b0 : decide (120 < (l0.length : Int)) = false := decide_eq_false c2;have c2b1 : decide (120 < l0.length) = false := decide_eq_false (by omega);clear c2;have H' := Aside0.mk H;clear H
    go_enter Try.func29, Try.ntmps29
    go_wp2_with (first|((with_reducible refine gate_dst (N := 2) rfl ?_);refine bE 2 #[.int .i64 0, .int .i64 0] 24 ?_;intro gb103 hg w5 hbox hb;have BK103 := Aside0.mk (hbox);have GW103 := gBe HB hg;have GE103 := gBe HB hg;replace HB := sBe HB hb;clear hb hbox hg))
    go_loopg [11] k (fun kq v11 w' => ∃ (x11_1 : Int) (x104000_1 : Int) (x104001_1 : Int), v11 = .int .i64 x11_1 ∧ Aside0 (lines_Validate_0.l0 kq l0 (l0.length : Int) x11_1 = some (r1, r2)) ∧ Aside0 (kq ≤ k) ∧ Aside0 (w'.heap[gb103]? = some (.cells #[.int .i64 x104000_1, .int .i64 x104001_1] 24 (0, 0))) ∧ Aside0 (Below w.heap.size w w'))
    case atStart => exact ⟨(0), (0), (0), (by first|rfl|(simp only [i64_w, i32_w];done)|(simp only [i64_w, i32_w];rfl)|(simp;done)|(simp [*];done)), H', ⟨Nat.le_refl _⟩, ⟨kK⟩, ⟨eB⟩⟩
    case round =>
      clear H'
      try clear c2
      try clear c2b0
      try clear c2b1
      try clear p2
      try clear hcz4_0
      try clear hcz4_1
      try clear hfz4_0
      try clear hfz4_1
      obtain ⟨x11_1, x104000_1, x104001_1, rfl, HA, HK1, BK103, HB⟩ := hrel
      cases gk with
      | zero => exact absurd HA.out (by simp [lines_Validate_0.l0])
      | succ k1 =>
        have H := HA.out;clear HA;simp only [lines_Validate_0.l0] at H
        by_cases c6 : x11_1 < (l0.length : Int)
        · rw [if_pos c6] at H;have c6b0 : decide (x11_1 < (l0.length : Int)) = true := decide_eq_true c6;clear c6
          by_cases c7 : 0 ≤ x11_1
          · rw [if_pos c7] at H;have c7b0 : decide (0 ≤ x11_1) = true := decide_eq_true c7;clear c7
            by_cases c8 : x11_1 < (l0.length : Int)
            · rw [if_pos c8] at H;have c8b0 : decide (x11_1 < (l0.length : Int)) = true := decide_eq_true c8;clear c8
              by_cases c9 : ((rdOf ByteArray.empty l0 x11_1).size : Int) > 80
              · rw [if_pos c9] at H;have c9b0 : decide (80 < ((rdOf ByteArray.empty l0 x11_1).size : Int)) = true := decide_eq_true c9;have c9b1 : decide (80 < (rdOf ByteArray.empty l0 x11_1).size) = true := decide_eq_true (by omega);clear c9;simp only [Option.some.injEq, Prod.mk.injEq] at H;obtain ⟨rfl, rfl⟩ := H;have p104 : 0 ≤ (x11_1 : Int) := dA;have q104 : x11_1 < (l0.length : Int) := dA;obtain ⟨ad104, e104, hx104_0⟩ := Kd.at_string HR0.out x11_1 p104 q104
                cases e104
                replace hx104_0 := (hX HB hx104_0:);replace p104 := eq_true p104;replace q104 := eq_true q104;have hcz10_0 : wr.cell? ⟨gb103, 0, none⟩ = some (.int .i64 x104000_1) := (blk_cell BK103.out 0).trans rfl;have hcz10_1 : wr.cell? ⟨gb103, 1, none⟩ = some (.int .i64 x104001_1) := (blk_cell BK103.out 1).trans rfl;have hfz10_0 := blk_frozen BK103.out 0;have hfz10_1 := blk_frozen BK103.out 1
                go_wp2
                refine bodyPost_ret (results_cell_row rfl _ _ gb103 24 #[.int .i64 2, .int .i64 x11_1] (0, 0) _ rfl kK Try.underlying24 rfl (by kernel_rfl)) rfl ?_;exact ⟨rW, eB⟩
              · rw [if_neg c9] at H;have c9b0 : decide (80 < ((rdOf ByteArray.empty l0 x11_1).size : Int)) = false := decide_eq_false c9;have c9b1 : decide (80 < (rdOf ByteArray.empty l0 x11_1).size) = false := decide_eq_false (by omega);clear c9;replace H := Option.bind_eq_some_iff.mp H;obtain ⟨t105, A110, H⟩ := H;replace H : (if t105 = true then (some (5, x11_1)) else (lines_Validate_0.l0 k1 l0 (l0.length : Int) (wrap64 (x11_1 + 1)))) = some (r1, r2) := H;have A11 := Aside0.mk A110;clear A110
                by_cases c12 : t105 = true
                · subst c12;have H1 : (some (5, x11_1)) = some (r1, r2) := (by rw [if_pos rfl] at H;exact H);clear H;have H := H1;clear H1;simp only [Option.some.injEq, Prod.mk.injEq] at H;obtain ⟨rfl, rfl⟩ := H;have p104 : 0 ≤ (x11_1 : Int) := dA;have q104 : x11_1 < (l0.length : Int) := dA;obtain ⟨ad104, e104, hx104_0⟩ := Kd.at_string HR0.out x11_1 p104 q104
                  cases e104
                  replace hx104_0 := (hX HB hx104_0:);replace p104 := eq_true p104;replace q104 := eq_true q104
                  go_wp2_with (first|((with_reducible refine gate_callee (f := 44) rfl ?_);refine goesL_ (some 24) rfl rfl Try.func44 (by kernel_rfl) rfl #[.string (rdOf ByteArray.empty l0 x11_1), .int .i32 10] rfl mA ?_;(with_reducible refine (strings_ContainsRune.calls (rdOf ByteArray.empty l0 x11_1) 10 true _ A11.out).mono ?_);rintro e w' ⟨rfl, ⟨nd, rfl⟩⟩;refine ⟨_, rfl, ?_⟩;(try (rw [drewN_self wr];generalize hq_ : World.drewN wr _ = wr;have n0_ : Aside0 (wr.heap[gb103]? = some (.cells #[.int .i64 x104000_1, .int .i64 x104001_1] 24 (0, 0))) := ⟨by rw [← hq_];exact kK⟩;have n1_ : Aside0 (Below w.heap.size w wr) := ⟨by rw [← hq_];exact eB⟩;clear BK103 HB hq_;have BK103 := n0_;have HB := n1_;clear n0_ n1_));have hcz13_0 : wr.cell? ⟨gb103, 0, none⟩ = some (.int .i64 x104000_1) := (blk_cell BK103.out 0).trans rfl;have hcz13_1 : wr.cell? ⟨gb103, 1, none⟩ = some (.int .i64 x104001_1) := (blk_cell BK103.out 1).trans rfl;have hfz13_0 := blk_frozen BK103.out 0;have hfz13_1 := blk_frozen BK103.out 1))
                  refine bodyPost_ret (results_cell_row rfl _ _ gb103 24 #[.int .i64 5, .int .i64 x11_1] (0, 0) _ rfl kK Try.underlying24 rfl (by kernel_rfl)) rfl ?_;exact ⟨rW, eB⟩
                · replace c12 := Bool.eq_false_iff.mpr c12;subst c12;have H1 : (lines_Validate_0.l0 k1 l0 (l0.length : Int) (wrap64 (x11_1 + 1))) = some (r1, r2) := (by rw [if_neg (show ¬ (false = true) by decide)] at H;exact H);clear H;have H := H1;clear H1;have H' := Aside0.mk H;clear H;have p104 : 0 ≤ (x11_1 : Int) := dA;have q104 : x11_1 < (l0.length : Int) := dA;obtain ⟨ad104, e104, hx104_0⟩ := Kd.at_string HR0.out x11_1 p104 q104
                  cases e104
                  replace hx104_0 := (hX HB hx104_0:);replace p104 := eq_true p104;replace q104 := eq_true q104
                  go_wp2_with (first|((with_reducible refine gate_callee (f := 44) rfl ?_);refine goesL_ (some 24) rfl rfl Try.func44 (by kernel_rfl) rfl #[.string (rdOf ByteArray.empty l0 x11_1), .int .i32 10] rfl mA ?_;(with_reducible refine (strings_ContainsRune.calls (rdOf ByteArray.empty l0 x11_1) 10 false _ A11.out).mono ?_);rintro e w' ⟨rfl, ⟨nd, rfl⟩⟩;refine ⟨_, rfl, ?_⟩))
                  go_roundg k1
                  case measure => have := HK1.out;omega
                  case rel => exact ⟨(wrap64 (x11_1 + 1)), (x104000_1), (x104001_1), (by first|rfl|(simp only [i64_w, i32_w];done)|(simp only [i64_w, i32_w];rfl)|(simp;done)|(simp [*];done)), H', ⟨by have := HK1.out;omega⟩, ⟨kK⟩, ⟨eB⟩⟩
            · rw [if_neg c8] at H;exact absurd H (by simp)
          · rw [if_neg c7] at H;exact absurd H (by simp)
        · rw [if_neg c6] at H;have c6b0 : decide (x11_1 < (l0.length : Int)) = false := decide_eq_false c6;clear c6;simp only [Option.some.injEq, Prod.mk.injEq] at H;obtain ⟨rfl, rfl⟩ := H;have hcz14_0 : wr.cell? ⟨gb103, 0, none⟩ = some (.int .i64 x104000_1) := (blk_cell BK103.out 0).trans rfl;have hcz14_1 : wr.cell? ⟨gb103, 1, none⟩ = some (.int .i64 x104001_1) := (blk_cell BK103.out 1).trans rfl;have hfz14_0 := blk_frozen BK103.out 0;have hfz14_1 := blk_frozen BK103.out 1
          go_wp2
          refine bodyPost_ret (results_cell_row rfl _ _ gb103 24 #[.int .i64 0, .int .i64 0] (0, 0) _ rfl kK Try.underlying24 rfl (by kernel_rfl)) rfl ?_;exact ⟨rW, eB⟩

/-! ### lines_Validate: function 29 -/
theorem lines_Validate_0.loop (l : List ByteArray) (hl : l.length ≤ 120) (d : Nat) : ∀ (k i : Nat), i ≤ l.length → l.length - i = d → d < k → lines_Validate_0.l0 k l (l.length : Int) (i : Int) = some (faultAt (l.drop i) (i : Int)) := by
  induction d with
  | zero =>
    intro k i hi hd hk
    obtain ⟨k, rfl⟩ : ∃ m, k = m + 1 := ⟨k - 1, by omega⟩
    simp only [lines_Validate_0.l0]
    rw [if_neg (by omega), List.drop_eq_nil_of_le (by omega)]
    rfl
  | succ d ih =>
    intro k i hi hd hk
    obtain ⟨k, rfl⟩ : ∃ m, k = m + 1 := ⟨k - 1, by omega⟩
    rw [rdOf_drop ByteArray.empty l i (by omega)]
    generalize hs : rdOf ByteArray.empty l (i : Int) = s
    simp only [lines_Validate_0.l0, hs]
    rw [if_pos (by omega), if_pos (by omega), if_pos (by omega)]
    simp only [faultAt]
    by_cases h1 : 80 < s.size
    · rw [if_pos (by omega), if_pos h1]
    · rw [if_neg (by omega), if_neg h1]
      simp only [strings_ContainsRune.f, if_true, Option.bind_some]
      by_cases h2 : hasNl s = true
      · rw [if_pos h2, if_pos h2]
      · rw [if_neg h2, if_neg h2, w64 (by omega) (by omega)]
        have := ih k (i + 1) (by omega) (by omega) (by omega)
        rw [Int.natCast_add] at this
        exact this
def lines_Validate.f (l0 : List ByteArray) : Option (Int × Int) :=  some (linesFault l0)
theorem lines_Validate.calls (A0 : Option Addr) (c0 : Nat) (l0 : List ByteArray) (r1 : Int) (r2 : Int) (w : World) (hr0 : Kd.C Kd.string w A0 l0.length l0) (hc0 : l0.length ≤ c0) (h : lines_Validate.f l0 = some (r1, r2)) :
    Calls Try.prog 29 #[.slice A0 l0.length c0] w fun e w' => e = .returned (.agg #[.int .i64 r1, .int .i64 r2]) ∧ Below w.heap.size w w' := by
  have h' : lines_Validate_0.f 121 l0 = some (r1, r2) := by
    rw [← h]
    unfold lines_Validate_0.f lines_Validate.f linesFault
    by_cases c : 120 < l0.length
    · rw [if_pos (by omega), if_pos c]
    · rw [if_neg (by omega), if_neg c]
      exact lines_Validate_0.loop l0 (by omega) l0.length 121 0 (by omega) (by omega) (by omega)
  exact (lines_Validate_0.calls (121) A0 c0 l0 r1 r2 w hr0 hc0 (h'))


/-! ### lines_Split: function 25 -/
def lines_Split.f (a0 : ByteArray) : Option (List ByteArray × Int × Int) :=  some (splitSpec a0)
section
open Go.Shelf
attribute [local go_sem] Oper.semAt_some
def restOf (sb : Nat) (w : World) : ByteArray := match w.cell? ⟨sb, 0, none⟩ with | some (.string r) => r | _ => ByteArray.empty
theorem restOf_eq {sb : Nat} {w : World} {s : ByteArray} {T : TypeId} (h : Boxed w sb T (.string s)) : restOf sb w = s := by
  unfold restOf; rw [h.cell]
def trimmed (c : ByteArray) : ByteArray := mkStr (Lib.trimSuffix c.data.toList [10])
set_option maxRecDepth 100000 in
set_option maxHeartbeats 2000000 in
theorem lines1_in (n : Nat) (hn : 2 ≤ n) (l sb : Nat) (s : ByteArray) (hs : s.size ≤ 4096) (J : List ByteArray → World → Prop)
    (hJ : ∀ pre W r, Boxed W sb 9 r → J pre W → ∀ v, J pre (W.setCell ⟨sb, 0, none⟩ v))
    (hD : ∀ pre W, J pre W → J pre W.drew)
    (hY : ∀ pre c W r, J pre W → Boxed W sb 9 r → c.size ≤ 4096 → pre.length < 4096 → YieldAt Fence.wide (n - 1) Try.prog l #[.string c] W fun e W' =>
      e = .returned (.bool true) ∧ J (pre ++ [trimmed c]) W' ∧ Boxed W' sb 9 r)
    (W : World) (hb : Boxed W sb 9 (.string s)) (h0 : J [] W) :
    CallsIn Fence.wide n Try.prog 49 #[.func (.yield l) #[] #[], .pointer (some ⟨sb, 0, none⟩)] W fun e W' => (∃ v, e = .returned v) ∧ J (textLines s) W' := by
  refine callsIn_of_wp Try.func49 rfl trivial ?_ rfl
  simp only [Try.ntmps49, List.size_toArray, List.length_cons, List.length_nil, Nat.reduceAdd, Nat.reduceSub, Array.replicate_succ, Array.replicate_zero, List.push_toArray, List.append_toArray, List.nil_append, List.cons_append]
  gi_wp2
  gi_loopw [3] (fun _ wr => ∃ (pre : List ByteArray) (r : ByteArray), Boxed wr sb 9 (.string r) ∧ J pre wr ∧ pre.length + r.size ≤ s.size ∧ pre ++ textLines r = textLines s) (fun _ wr => (restOf sb wr).size)
  case atStart => exact ⟨[], s, hb, h0, by simp, rfl⟩
  case round =>
    obtain ⟨pre, r, hbr, hJr, hsz, hpr⟩ := hrel
    have hcr := hbr.cell
    have hfr := hbr.frozen
    by_cases hz : r.size = 0
    · have hr0 : r.data.toList = [] := List.eq_nil_of_length_eq_zero (by rw [← Lib.size_eq]; exact hz)
      have hr1 : textLines r = [] := by unfold textLines; rw [hr0, linesOf_nil]; rfl
      rw [hr1, List.append_nil] at hpr
      subst hpr
      gi_wp2
      go_end0
      exact ⟨⟨_, rfl⟩, hJr⟩
    · have hz' : 0 < r.size := Nat.pos_of_ne_zero hz
      rcases indexByte_spec r.data.toList 10 with ⟨e1, e2⟩ | ⟨i, e1, e2, e3, e4⟩
      · have hY1 := hY pre r (wr.setCell ⟨sb, 0, none⟩ (.string ⟨#[]⟩)) (.string ⟨#[]⟩) (hJ _ _ _ hbr hJr _) (hbr.set _) (by omega) (by omega)
        obtain ⟨fn, tmps, assign, body, hy, hR⟩ := hY1
        gi_wp2_with (refine ⟨trivial, fun _ => by omega, ?_⟩; refine (callsIn_wide.2 (Try.strings_IndexByte r 10 wr)).mono ?_; rintro e w' ⟨rfl, rfl⟩; simp only [show ((10 : Int).toNat.toUInt8) = 10 from rfl, e1])
        clear hY
        refine ⟨fun _ => by omega, ?_⟩
        refine hR.mono ?_
        rintro e W3 ⟨rfl, hJ3, hb3⟩
        gi_wp2
        go_roundw
        case rel =>
          refine ⟨_, _, hb3, hJ3, ?_, ?_⟩
          · rw [List.length_append]; show _ + 1 + 0 ≤ _; omega
          · rw [show textLines ⟨#[]⟩ = [] by unfold textLines; rw [linesOf_nil]; rfl, List.append_nil, ← hpr]
            congr 1
            unfold textLines trimmed
            rw [linesOf_none _ e2 (fun h => by have e := Lib.size_eq r; rw [h] at e; exact hz e), trim_none _ e2]
            rfl
        case measure => rw [restOf_eq hb3, restOf_eq hbr]; exact hz'
      · have h1 : (i + 1 : Nat) ≤ r.size := by rw [Lib.size_eq]; exact e2
        have hY1 := hY pre (r.extract 0 (i + 1)) (wr.setCell ⟨sb, 0, none⟩ (.string (r.extract (i + 1) r.size))).drew (.string (r.extract (i + 1) r.size)) (hD _ _ (hJ _ _ _ hbr hJr _)) (hbr.set _) (by rw [ByteArray.size_extract]; omega) (by omega)
        obtain ⟨fn, tmps, assign, body, hy, hR⟩ := hY1
        gi_wp2_with (refine ⟨trivial, fun _ => by omega, ?_⟩; refine (callsIn_wide.2 (Try.strings_IndexByte r 10 wr)).mono ?_; rintro e w' ⟨rfl, rfl⟩; simp only [show ((10 : Int).toNat.toUInt8) = 10 from rfl, e1])
        clear hY
        gi_region
        all_goals gi_wp2
        refine ⟨fun _ => by omega, ?_⟩
        refine hR.mono ?_
        rintro e W3 ⟨rfl, hJ3, hb3⟩
        gi_wp2
        go_roundw
        case rel =>
          refine ⟨_, _, hb3, hJ3, ?_, ?_⟩
          · rw [List.length_append]; simp; omega
          · rw [← hpr, List.append_assoc]
            congr 1
            have e5 : r.data.toList = r.data.toList.take i ++ 10 :: r.data.toList.drop (i + 1) := by
              have h4 := List.getElem?_eq_some_iff.1 e4
              obtain ⟨h4, h5⟩ := h4
              rw [← h5, List.getElem_cons_drop, List.take_append_drop]
            unfold textLines trimmed
            have e6 : (r.extract 0 (i + 1)).data.toList = r.data.toList.take i ++ [10] := by
              rw [Lib.extract_data, List.drop_zero, Nat.sub_zero]
              rw [List.take_succ_eq_append_getElem e2, (List.getElem?_eq_some_iff.1 e4).2]
            have e7 : (r.extract (i + 1) r.size).data.toList = r.data.toList.drop (i + 1) := by
              rw [Lib.extract_data, List.take_of_length_le (by rw [List.length_drop, Lib.size_eq]; omega)]
            rw [e6, e7, trim_nl]
            conv => rhs; rw [e5, linesOf_cut _ _ e3]
            rfl
        case measure => rw [restOf_eq hb3, restOf_eq hbr]; simp; omega

theorem lines_in (n : Nat) (s : ByteArray) (w : World) :
    CallsIn Fence.wide n Try.prog 37 #[.string s] w fun e w' => e = .returned (.func (.func 49) #[] #[.pointer (some ⟨w.heap.size, 0, none⟩)]) ∧ w' = w.alloc (.cells #[.string s] 9) := by
  refine callsIn_of_wp Try.func37 rfl trivial ?_ rfl
  simp only [Try.ntmps37, List.size_toArray, List.length_cons, List.length_nil, Nat.reduceAdd, Nat.reduceSub, Array.replicate_succ, Array.replicate_zero, List.push_toArray, List.append_toArray, List.nil_append, List.cons_append]
  gi_wp2
  go_ret
  exact ⟨rfl, rfl⟩

/-- 'for c := range strings.Lines(s) { .. }': a body that never leaves; the iterator keeps what is left of s in its own box. -/
theorem range_lines {n : Nat} (hn : 4 ≤ n) {g : Operand} {p : Tmp} {assign body : Code} {Q : Exit → Act → World → Prop} {a : Act} {W0 : World} (sb : Nat) (s : ByteArray)
    (hg : a.eval g = .func (.func 49) #[] #[.pointer (some ⟨sb, 0, none⟩)]) (hs : s.size ≤ 4096) (hb : Boxed W0 sb 9 (.string s))
    (I : List ByteArray → World → Prop)
    (hIs : ∀ pre W r v, Boxed W sb 9 r → I pre W → I pre (W.setCell ⟨sb, 0, none⟩ v)) (hId : ∀ pre W, I pre W → I pre W.drew)
    (hIp : ∀ pre W k o o', W0.heap.size ≤ k → k < W0.heap.size + 2 → W.heap[k]? = some o → o.isCells = false → I pre W → I pre (W.putObj k o'))
    (h0 : ∀ o o', o.isCells = false → o'.isCells = false → I [] ((W0.alloc o).alloc o')) (a₁ : ByteArray → Act)
    (hassign : ∀ (l : Nat) (c : ByteArray) (W : World) (K : Act → World → Prop), K (a₁ c) W → assign.wpIn (Fence.wide.inRound l) (n - 1 - 1) Try.prog (Exit.then K (fun _ _ _ => False)) { tmps := (#[p].zip #[Value.string c]).foldl (fun t (p, v) => t.setIfInBounds p v) a.tmps, defers := [] } W)
    (hbody : ∀ (l : Nat) (pre : List ByteArray) (c : ByteArray) (W : World), I pre W → sb < W.heap.size → c.size ≤ 4096 → pre.length < 4096 →
      body.wpIn (Fence.wide.inRound l) (n - 1 - 1) Try.prog (fun e _ W' => e = .normal ∧ KeepsOthers W W' ∧ W'.heap[sb]? = W.heap[sb]? ∧ I (pre ++ [trimmed c]) W') (a₁ c) W)
    (hdone : ∀ W, I (textLines s) W → W.heap[W0.heap.size]? = some (.deferred (some [])) → Q .normal { a with defers := { target := .collected W0.heap.size, args := #[] } :: a.defers } W) :
    (Code.rangeFunc g #[p] assign body).wpIn Fence.wide n Try.prog Q a W0 := by
  refine wpIn_rangeFunc ?_
  intro fn hfn
  generalize hD : W0.heap.size = D at *
  obtain ⟨rec, hrec⟩ : ∃ rec : LoopState → Option Code → Loop, rec = fun st pe => { state := st, pending := pe, fn, tmps := a.tmps, params := #[p], assign, body, defers := D } := ⟨_, rfl⟩
  have hsb : sb < D := by rw [← hD]; exact hb.lt
  have hsz1 : ((W0.alloc (.deferred (some []))).alloc (.loop (rec .ready none))).heap.size = D + 2 := by simp [hD]
  have hL : ((W0.alloc (.deferred (some []))).alloc (.loop (rec .ready none))).heap[D + 1]? = some (.loop (rec .ready none)) := by
    have := World.alloc_heap_new (W0.alloc (.deferred (some []))) (.loop (rec .ready none)); rwa [World.size_alloc, hD] at this
  have hK : ((W0.alloc (.deferred (some []))).alloc (.loop (rec .ready none))).heap[D]? = some (.deferred (some [])) := by
    have := World.alloc_heap_new W0 (.deferred (some [])); rw [hD] at this
    exact (Below.heap_alloc _ _ _ (by simp [hD])).trans this
  have hb1 : Boxed ((W0.alloc (.deferred (some []))).alloc (.loop (rec .ready none))) sb 9 (.string s) := (hb.alloc _).alloc _
  have hI1 := h0 (.deferred (some [])) (.loop (rec .ready none)) rfl rfl
  generalize hW1 : (W0.alloc (.deferred (some []))).alloc (.loop (rec .ready none)) = W1 at *
  refine ⟨D + 1, [{ target := .collected D, args := #[] }], W1, { target := .fn (.func 49) #[.pointer (some ⟨sb, 0, none⟩)], args := #[.func (.yield (D + 1)) #[] #[]] }, W1, 49,
    #[.func (.yield (D + 1)) #[] #[], .pointer (some ⟨sb, 0, none⟩)], W1, ?_, ?_, fun _ _ => trivial, ?_, fun _ => by omega, ?_⟩
  · have := run_enterLoop_outer (P := Try.prog) (w := W0) fn a.tmps #[p] assign body
    rw [hD] at this
    rw [← hW1, hrec]
    exact this
  · simp only [resolve, hg]
    simp [go_sem]
  · have := enters_of (P := Try.prog) Try.func49 (by kernel_rfl) rfl #[.func (.yield (D + 1)) #[] #[], .pointer (some ⟨sb, 0, none⟩)] W1
    simp [invoke, go_sem, this]
  · refine (lines1_in (n - 1) (by omega) (D + 1) sb s hs
      (fun pre W => I pre W ∧ W.heap[D + 1]? = some (.loop (rec .ready none)) ∧ W.heap[D]? = some (.deferred (some [])))
      (fun pre W r hr h v => ⟨hIs pre W r v hr h.1, (Below.heap_setCell W ⟨sb, 0, none⟩ v (D + 1) (by show D + 1 ≠ sb; omega)).trans h.2.1, (Below.heap_setCell W ⟨sb, 0, none⟩ v D (by show D ≠ sb; omega)).trans h.2.2⟩)
      (fun pre W h => ⟨hId pre W h.1, h.2.1, h.2.2⟩) ?_ W1 hb1 ⟨hI1, hL, hK⟩).mono ?_
    · rintro pre c W r ⟨hi, hl, hk⟩ hbx hc hlen
      have hy := run_yield (P := Try.prog) (args := #[.string c]) hl (by rw [hrec]; rfl)
      rw [hrec] at hy
      refine ⟨fn, _, assign, body, hy, ?_⟩
      refine roundIn_of_wpIn hfn ?_
      refine hassign _ c W _ ?_
      refine ⟨_, run_beginRound hl (by rw [hrec]), ?_⟩
      have hlt : D + 1 < W.heap.size := (Array.getElem?_eq_some_iff.1 hl).1
      have hl2 : (W.putObj (D + 1) (.loop { rec .ready none with state := .busy })).heap[D + 1]? = some (.loop { rec .ready none with state := .busy }) := World.putObj_heap_same hlt
      have hk2 : (W.putObj (D + 1) (.loop { rec .ready none with state := .busy })).heap[D]? = some (.deferred (some [])) := (World.putObj_heap_other (by omega)).trans hk
      have hb2 : Boxed (W.putObj (D + 1) (.loop { rec .ready none with state := .busy })) sb 9 r := (World.putObj_heap_other (by omega)).trans hbx
      refine wpIn_mono (hbody _ pre c _ (hIp _ _ _ _ _ (by omega) (by omega) hl rfl hi) hb2.lt hc hlen) ?_
      rintro e a3 W3 ⟨rfl, hko, hsame, hi3⟩
      have hl3 := hko.same _ _ hl2 rfl
      have hk3 := hko.same _ _ hk2 rfl
      have hlt3 : D + 1 < W3.heap.size := (Array.getElem?_eq_some_iff.1 hl3).1
      have hend := run_endRound (P := Try.prog) none hl3
      refine ⟨_, _, hend, rfl, ⟨hIp _ _ _ _ _ (by omega) (by omega) hl3 rfl hi3, ?_, (World.putObj_heap_other (by omega)).trans hk3⟩, (World.putObj_heap_other (by omega)).trans (hsame.trans hb2)⟩
      rw [World.putObj_heap_same hlt3, hrec]
      rfl
    · rintro e W2 ⟨⟨v, rfl⟩, hi, hl, hk⟩
      exact ⟨none, _, by have := run_endLoop (P := Try.prog) hl (by rw [hrec]; simp); rw [hrec] at this; exact this, hdone _ (hIp _ _ _ _ _ (by omega) (by omega) hl rfl hi) ((World.putObj_heap_other (by omega)).trans hk)⟩

attribute [-go_sem] Builtin.append_
set_option maxRecDepth 100000 in
set_option maxHeartbeats 2000000 in
theorem split_in (a0 : ByteArray) (r1 : List ByteArray) (r2 r3 : Int) (w : World) (h : splitSpec a0 = (r1, r2, r3)) : CallsIn Fence.wide 6 Try.prog 25 #[.string a0] w fun e w' => ∃ v0_ : Value, e = .returned (.tuple #[v0_, .agg #[.int .i64 r2, .int .i64 r3]]) ∧ Kd.R Kd.string 9 w' w.heap.size (fun _ => True) v0_ r1 ∧ Below w.heap.size w w' := by
  have hu_ := Try.underlying24
  unfold splitSpec at h
  refine callsIn_of_wp_marks Try.func25 rfl trivial ?_ rfl
  simp only [Try.ntmps25, List.size_toArray, List.length_cons, List.length_nil, Nat.reduceAdd, Nat.reduceSub, Array.replicate_succ, Array.replicate_zero, List.push_toArray, List.append_toArray, List.nil_append, List.cons_append]
  by_cases hz : 4096 < a0.size
  · rw [if_pos hz] at h
    injection h with h1 h
    injection h with h2 h3
    subst h1 h2 h3
    gi_wp2
    exact ⟨_, results_tc rfl _ _ w.heap.size 24 #[.int .i64 10, .int .i64 (-1)] (0, 0) _ rfl (blk_new _ _) Try.underlying24 rfl (by kernel_rfl), _, rfl, Kd.R_nil _ _ _ _ _, below_alloc (Below.refl _ _) _⟩
  · rw [if_neg hz] at h
    gi_wp2_with (refine ⟨trivial, ?_⟩; refine (lines_in _ a0 _).mono ?_; rintro e w' ⟨rfl, rfl⟩)
    refine range_lines (n := 6) (by omega) (w.heap.size + 2) a0 rfl (by omega) ?_ (fun pre W => ∃ v, Boxed W (w.heap.size + 1) 33 v ∧ W.ownsRow (w.heap.size + 5) 9 1 v pre.length (pre.map Value.string) ∧ W.heap[w.heap.size]? = some (.cells #[.int .i64 0, .int .i64 0] 24 (0, 0)) ∧ Below w.heap.size w W ∧ w.heap.size + 5 ≤ W.heap.size) ?_ ?_ ?_ ?_ (fun c => { tmps := #[Value.string a0, undef, Value.slice none 0 0, Value.pointer (some { block := w.heap.size, off := 0 }), Value.pointer (some { block := w.heap.size + 1, off := 0 }), .string c, undef, Value.string a0, Value.int IntKind.i64 ↑a0.size, Value.bool (decide (4096 < (a0.size : Int))), undef, Value.string a0, .func (.func 49) #[] #[.pointer (some ⟨w.heap.size + 2, 0, none⟩)], .string c, undef, undef, undef, undef, undef, undef, undef, undef, undef, undef, undef, undef, undef], defers := [] }) ?_ ?_ ?_
    · have := World.alloc_heap_new ((w.alloc (.cells #[.int .i64 0, .int .i64 0] 24)).alloc (.cells #[.slice none 0 0] 33)) (.cells #[.string a0] 9)
      rwa [World.size_alloc, World.size_alloc] at this
    · rintro pre W r u hr ⟨v, hv, hrow, hf, hB, h5⟩
      refine ⟨v, hv.kept (grownBy_setCell' _ _ _) (by simp), hrow.kept (grownBy_setCell' _ _ _) ?_, (Below.heap_setCell _ _ _ _ (by show w.heap.size ≠ w.heap.size + 2; omega)).trans hf, hB.setCell (by show w.heap.size ≤ w.heap.size + 2; omega) _, by simpa [World.setCell] using h5⟩
      cases hvb : v.ownBlock with
      | none => exact .inl rfl
      | some k => exact .inr (fun e => by have := own_base hrow k hvb; injection e with e; omega)
    · rintro pre W ⟨v, hv, hrow, hf, hB, h5⟩
      exact ⟨v, hv, pw_own_below hrow (below_drew (Below.refl _ _)), hf, hB.drew, h5⟩
    · rintro pre W k o o' hk1 hk2 hk ho ⟨v, hv, hrow, hf, hB, h5⟩
      simp only [World.size_alloc] at hk1 hk2
      exact ⟨v, (World.putObj_heap_other (by omega)).trans hv, ownsRow_putObj hrow o' hk ho, (World.putObj_heap_other (by omega)).trans hf, hB.trans ((Below.refl _ W).grown (grownBy_putObj' W k o') hB.size (fun q e => by cases e; omega)), by simpa using h5⟩
    · intro o o' ho ho'
      have hb0 := Boxed.new (w.alloc (.cells #[.int .i64 0, .int .i64 0] 24)) 33 (.slice none 0 0)
      rw [World.size_alloc] at hb0
      refine ⟨_, ((hb0.alloc _).alloc _).alloc _, own_nil _ _ _ _, ?_, ?_, ?_⟩
      · exact blk_alloc (blk_alloc (blk_alloc (blk_alloc (blk_new w _) _) _) _) _
      · exact ((((Below.refl _ w).alloc (Nat.le_refl _) _).alloc (by simp) _).alloc (by simp; omega) _).alloc (by simp; omega) _ |>.alloc (by simp; omega) _
      · simp
    · intro l c W K hK
      gi_wp2
      exact hK
    · rintro l pre c W ⟨v, hv, hrow, hf, hB, h5⟩ hsb hc hlen
      obtain ⟨i0, hi, hz0, hz1, hz2⟩ := info_parts (P := Try.prog) (e := 9) (show (Try.prog.info? 9).map (fun i => (i.zero, i.size, i.bytes)) = some (some (.string ⟨#[]⟩), 1, 16) by kernel_rfl)
      have hcv := hv.cell
      have hfv := hv.frozen
      have hrow' : (W.drew.alloc (.cells #[.string (trimmed c)] 9)).ownsRow (w.heap.size + 5) 9 1 v pre.length (pre.map Value.string) := pw_own_below hrow (below_alloc (below_drew (Below.refl _ _)) _)
      obtain ⟨v', w1, hrun, hown', hgrow, _⟩ := run_append_own (P := Try.prog) (W.alloc (.cells #[.string (trimmed c)] 9)).drew (w.heap.size + 5) 33 33 9 i0 (.string ⟨#[]⟩) 1 16 Try.underlying33 hi hz0 hz1 hz2 rfl (by decide) v pre.length _ hrow' ⟨W.heap.size, 0, none⟩ 1 1 [.string (trimmed c)] rfl (fun j u hj => cell_one_new W _ 9 j u hj) (by simp [Value.oneCell']) (by show _ ≤ 9223372036854775807; omega) (by omega) (by simp; omega)
      obtain ⟨g', cap', rfl⟩ := ownsRow_succ hown'
      have hte : (33 : TypeId) ≠ 9 := by decide
      have hv1 : Boxed w1 (w.heap.size + 1) 33 v := (show Boxed (W.drew.alloc (.cells #[.string (trimmed c)] 9)) (w.heap.size + 1) 33 v from Boxed.alloc (show Boxed W.drew (w.heap.size + 1) 33 v from hv) _).kept hgrow (Boxed.not_row (show Boxed W.drew (w.heap.size + 1) 33 v from hv) hte (pw_own_below hrow (below_drew (Below.refl _ _))))
      have hcv1 := hv1.cell
      have hcv2 := (hv.alloc (.cells #[.string (trimmed c)] 9)).cell
      have hfv1 := hv1.frozen
      have hrowD : W.drew.ownsRow (w.heap.size + 5) 9 1 v pre.length (pre.map Value.string) := pw_own_below hrow (below_drew (Below.refl _ _))
      have hgrow' : (W.drew.alloc (.cells #[.string (trimmed c)] 9)).grownBy w1 v.ownBlock := hgrow
      have hne : ∀ k, k < w.heap.size + 5 → some k ≠ v.ownBlock := fun k hk e => by have := own_base hrow k e.symm; omega
      have fin : KeepsOthers W (w1.setCell ⟨w.heap.size + 1, 0, none⟩ (.slice (some ⟨g', 0, none⟩) (pre.length + 1) cap')) ∧
          (w1.setCell ⟨w.heap.size + 1, 0, none⟩ (.slice (some ⟨g', 0, none⟩) (pre.length + 1) cap')).heap[w.heap.size + 2]? = W.heap[w.heap.size + 2]? ∧
          ∃ v, Boxed (w1.setCell ⟨w.heap.size + 1, 0, none⟩ (.slice (some ⟨g', 0, none⟩) (pre.length + 1) cap')) (w.heap.size + 1) 33 v ∧ (w1.setCell ⟨w.heap.size + 1, 0, none⟩ (.slice (some ⟨g', 0, none⟩) (pre.length + 1) cap')).ownsRow (w.heap.size + 5) 9 1 v (pre ++ [trimmed c]).length ((pre ++ [trimmed c]).map Value.string) ∧ (w1.setCell ⟨w.heap.size + 1, 0, none⟩ (.slice (some ⟨g', 0, none⟩) (pre.length + 1) cap')).heap[w.heap.size]? = some (.cells #[.int .i64 0, .int .i64 0] 24 (0, 0)) ∧ Below w.heap.size w (w1.setCell ⟨w.heap.size + 1, 0, none⟩ (.slice (some ⟨g', 0, none⟩) (pre.length + 1) cap')) ∧ w.heap.size + 5 ≤ (w1.setCell ⟨w.heap.size + 1, 0, none⟩ (.slice (some ⟨g', 0, none⟩) (pre.length + 1) cap')).heap.size := by
        obtain ⟨_, q2, q3, q4, q5⟩ := Boxed.appended (W := W.drew) (n₀ := w.heap.size) (B := w.heap.size + 1) (show Boxed W.drew _ 33 v from hv) hte (own_weaken hrowD (by omega)) hB.size (by omega) (own_weaken hown' (by omega)) hgrow'
        have hst : ∀ k, k < w.heap.size + 5 → k ≠ w.heap.size + 1 → (w1.setCell ⟨w.heap.size + 1, 0, none⟩ (.slice (some ⟨g', 0, none⟩) (pre.length + 1) cap')).heap[k]? = W.heap[k]? := fun k hk hn =>
          (Below.heap_setCell _ _ _ _ hn).trans ((hgrow'.block k (by simp; show k < W.heap.size + 1; omega) (hne k hk)).trans (Below.heap_alloc W.drew _ k (by show k < W.heap.size; omega)))
        refine ⟨(KeepsOthers.drew W).trans q4, hst _ (by omega) (by omega), _, q2, ?_, (hst _ (by omega) (by omega)).trans hf, hB.drew.trans q5, ?_⟩
        · have := hown'.kept (grownBy_setCell' w1 (w.heap.size + 1) (.slice (some ⟨g', 0, none⟩) (pre.length + 1) cap')) (.inr (hv1.not_row hte hown').symm)
          simpa using this
        · have := hgrow'.size
          simp [World.setCell] at this ⊢
          have h6 : W.drew.heap.size = W.heap.size := rfl
          omega
      gi_wp2
      gi_region_with (refine ⟨trivial, ?_⟩; refine (CallsIn.inRound l (callsIn_wide.2 (Try.strings_TrimSuffix c ⟨#[10]⟩ W.drew (by omega)))).mono ?_; rintro e w' ⟨rfl, rfl⟩; rw [show ({ data := (Lib.trimSuffix c.data.toList (⟨#[10]⟩ : ByteArray).data.toList).toArray } : ByteArray) = trimmed c from rfl])
      all_goals exact ⟨rfl, fin⟩
    · rintro W ⟨v, hv, hrow, hf, hB, h5⟩ hD
      have hR : Kd.R Kd.string 9 W w.heap.size (fun _ => True) v (textLines a0) := Kd.R_of_own (enc := Value.string) (own_weaken hrow (by omega)) (fun _ _ => trivial)
      obtain ⟨A, c, rfl, hlc, hC⟩ := Kd.R_reads hR
      have hcv := hv.cell
      simp only [World.size_alloc] at hD
      obtain ⟨p1, p2, hp⟩ : ∃ p1 p2, linesFault (textLines a0) = (p1, p2) := ⟨_, _, rfl⟩
      obtain ⟨hf1, hf2, hf3, hf4, hf5⟩ := box_facts hf
      gi_wp2_with (refine ⟨trivial, ?_⟩; refine (callsIn_wide.2 (lines_Validate.calls A c (textLines a0) p1 p2 W hC hlc (congrArg some hp))).mono ?_; rintro e w' ⟨rfl, hb'⟩; have hv' : Boxed w' (w.heap.size + 1) 33 _ := blk_below hv hb'; have hcv' := hv'.cell; have hcv2 := (Boxed.alloc hv' (.cells #[.int .i64 p1, .int .i64 p2] 24)).cell; have hf' := blk_below hf hb'; obtain ⟨hg1, hg2, hg3, hg4, hg5⟩ := box_facts (blk_alloc hf' (.cells #[.int .i64 p1, .int .i64 p2] 24)))
      · have hx : (!p1 == 0) = true ∨ (!p2 == 0) = true := by assumption
        have hnz : ¬ ((p1, p2) = ((0 : Int), (0 : Int))) := by
          intro e
          injection e with e1 e2
          rw [e1, e2] at hx
          exact absurd hx (by decide)
        rw [hp, if_neg hnz] at h
        injection h with h1 h
        injection h with h2 h3
        subst h1 h2 h3
        gi_region
        all_goals gi_wp2
        all_goals (
          have hD' : w'.heap[w.heap.size + 1 + 1 + 1]? = some (.deferred (some [])) := blk_below hD hb'
          have B' : Below w.heap.size w w' := hB.trans (hb'.mono hB.size)
          refine ⟨by simp, .inl ⟨_, _, rfl, run_takeDeferred (ds := []) ((Below.heap_setCell _ _ _ _ (by show w.heap.size + 1 + 1 + 1 ≠ w.heap.size; omega)).trans ((Below.heap_setCell _ _ _ _ (by show w.heap.size + 1 + 1 + 1 ≠ w.heap.size; omega)).trans (blk_alloc hD' _))), ?_⟩⟩
          refine ⟨_, results_tc rfl _ _ w.heap.size 24 #[.int .i64 p1, .int .i64 p2] (0, 0) _ rfl ((World.putObj_heap_other (by omega)).trans (blk_put (cs := #[.int .i64 p1, .int .i64 0]) (blk_put (cs := #[.int .i64 0, .int .i64 0]) (blk_drew (blk_alloc hf' _)) 0 _ rfl) 1 _ rfl)) Try.underlying24 rfl (by kernel_rfl), _, rfl, Kd.R_nil _ _ _ _ _, ?_⟩
          refine (((B'.alloc B'.size _).drew.setCell (p := ⟨w.heap.size, 0, none⟩) (Nat.le_refl _) _).setCell (p := ⟨w.heap.size, 1, none⟩) (Nat.le_refl _) _).trans ((Below.refl _ _).grown (grownBy_putObj' _ _ _) ?_ (fun q e => by cases e; omega))
          have := B'.size
          simp [World.setCell]
          show w.heap.size ≤ w'.heap.size + 1
          omega)
      · have hx : (!p1 == 0) = false ∧ (!p2 == 0) = false := by assumption
        have h01 : p1 = 0 := by simpa using hx.1
        have h02 : p2 = 0 := by simpa using hx.2
        subst h01 h02
        rw [hp, if_pos rfl] at h
        injection h with h1 h
        injection h with h2 h3
        subst h1 h2 h3
        have hD' : w'.heap[w.heap.size + 1 + 1 + 1]? = some (.deferred (some [])) := blk_below hD hb'
        have B' : Below w.heap.size w w' := hB.trans (hb'.mono hB.size)
        have hR2 : Kd.R Kd.string 9 w' w.heap.size (fun k => w.heap.size + 5 ≤ k) (.slice A (textLines a0).length c) (textLines a0) := Kd.R_below (Kd.R_of_own (enc := Value.string) (own_weaken hrow (by omega)) (fun k hk => own_base hrow k hk)) hb'
        refine ⟨by simp, .inl ⟨_, _, rfl, run_takeDeferred (ds := []) ((Below.heap_setCell _ _ _ _ (by show w.heap.size + 1 + 1 + 1 ≠ w.heap.size; omega)).trans ((Below.heap_setCell _ _ _ _ (by show w.heap.size + 1 + 1 + 1 ≠ w.heap.size; omega)).trans (blk_alloc hD' _))), ?_⟩⟩
        refine ⟨_, results_tc rfl _ _ w.heap.size 24 #[.int .i64 0, .int .i64 0] (0, 0) _ rfl ((World.putObj_heap_other (by omega)).trans (blk_put (cs := #[.int .i64 0, .int .i64 0]) (blk_put (cs := #[.int .i64 0, .int .i64 0]) (blk_alloc hf' _) 0 _ rfl) 1 _ rfl)) Try.underlying24 rfl (by kernel_rfl), _, rfl, ?_, ?_⟩
        · refine Kd.R_mono (Kd.R_step hR2 (fun k hk hlt => ?_)) (fun _ _ => trivial)
          exact (World.putObj_heap_other (by omega)).trans ((Below.heap_setCell _ _ _ _ (by show k ≠ w.heap.size; omega)).trans ((Below.heap_setCell _ _ _ _ (by show k ≠ w.heap.size; omega)).trans (Below.heap_alloc _ _ _ hlt)))
        · refine (((B'.alloc B'.size _).setCell (p := ⟨w.heap.size, 0, none⟩) (Nat.le_refl _) _).setCell (p := ⟨w.heap.size, 1, none⟩) (Nat.le_refl _) _).trans ((Below.refl _ _).grown (grownBy_putObj' _ _ _) ?_ (fun q e => by cases e; omega))
          have := B'.size
          simp [World.setCell]
          omega
theorem lines_Split.calls (a0 : ByteArray) (r1 : List ByteArray) (r2 : Int) (r3 : Int) (w : World) (h : lines_Split.f a0 = some (r1, r2, r3)) :
    Calls Try.prog 25 #[.string a0] w fun e w' => ∃ v0_ : Value, e = .returned (.tuple #[v0_, .agg #[.int .i64 r2, .int .i64 r3]]) ∧ Kd.R Kd.string 9 w' w.heap.size (fun _ => True) v0_ r1 ∧ Below w.heap.size w w' := by
  exact callsIn_wide.1 (split_in a0 r1 r2 r3 w (Option.some.inj h))
end


/-! ### lines_Join: function 27 -/
def lines_Join.f (l0 : List ByteArray) : Option (ByteArray × Int × Int) :=  some (joinSpec l0)
set_option maxHeartbeats 2000000 in
set_option maxRecDepth 100000 in
theorem lines_Join.calls (A0 : Option Addr) (c0 : Nat) (l0 : List ByteArray) (r1 : ByteArray) (r2 : Int) (r3 : Int) (w : World) (hr0 : Kd.C Kd.string w A0 l0.length l0) (hc0 : l0.length ≤ c0) (h : lines_Join.f l0 = some (r1, r2, r3)) :
    Calls Try.prog 27 #[.slice A0 l0.length c0] w fun e w' => e = .returned (.tuple #[.string r1, .agg #[.int .i64 r2, .int .i64 r3]]) ∧ Below w.heap.size w w' := by
  have hu_ := Try.underlying24
  replace h : some (joinSpec l0) = some (r1, r2, r3) := h
  unfold joinSpec at h
  rcases linesFault_or l0 with z | z
  · have hok := linesFault_ok.mp z
    have hv : lines_Validate.f l0 = some (0, 0) := congrArg some z
    have hJ : (joined l0).length ≤ 81 * 120 := Nat.le_trans (joined_length (fun s hs => (hok.2 s hs).1)) (by have := hok.1; omega)
    have hJi : ∀ i, i < l0.length → (joined (l0.take i)).length + (rdOf ByteArray.empty l0 (i : Int)).size ≤ 140737488355328 := by
      intro i hi
      have h1 := joined_length (l := l0.take i) (fun s hs => (hok.2 s (List.mem_of_mem_take hs)).1)
      have h2 := (hok.2 _ (List.getElem_mem hi)).1
      rw [rdOf_at _ _ _ hi]
      have := hok.1
      simp only [List.length_take] at h1
      omega
    have hl := hok.1
    rw [if_pos z] at h
    have HV := Aside0.mk hv
    have HJI := Aside0.mk hJi
    have hJ3 : ∀ i, i < l0.length → (joined (l0.take i)).length + (rdOf ByteArray.empty l0 (i : Int)).size + 1 ≤ 140737488355328 := by
      intro i hi
      have h1 := joined_length (l := l0.take i) (fun s hs => (hok.2 s (List.mem_of_mem_take hs)).1)
      have h2 := (hok.2 _ (List.getElem_mem hi)).1
      rw [rdOf_at _ _ _ hi]
      have := hok.1
      simp only [List.length_take] at h1
      omega
    have HJ3_ := Aside0.mk hJ3
    have HH := Aside0.mk h
    have HL := Aside0.mk hJ
    have HR := Aside0.mk hr0
    clear z hok hv h hJ hJi hr0 hJ3
    go_enter Try.func27, Try.ntmps27
    go_wp2_with fail
    refine (lines_Validate.calls A0 c0 l0 0 0 _ (Kd.C_below HR.out (below_alloc (Below.refl _ _) _)) hc0 HV.out).mono ?_
    rintro e w1 ⟨rfl, hb⟩
    have hbk := blk_below (heap_alloc_new w _) hb
    have hb1 : Below w.heap.size w w1 := below_then ((Below.refl _ _).alloc (Nat.le_refl _) _) (by simp) hb
    have HBK := Aside0.mk hbk
    have HB1 := Aside0.mk hb1
    clear hbk hb hb1
    go_wp2_with fail
    have hB0 : Lib.IsBuilder 62 5 (w1.heap.size + 1) (w1.heap.size + 1) (bv (joined (l0.take 0))) ((w1.alloc (.cells #[.int .i64 0, .int .i64 0] 24)).alloc (.cells #[.pointer none, .slice none 0 0] 62)) := by
      have := Lib.fresh_isBuilder 62 5 (w1.alloc (.cells #[.int .i64 0, .int .i64 0] 24))
      simpa [joined, bv, Lib.byteCells] using this
    have hbk2 : ((w1.alloc (.cells #[.int .i64 0, .int .i64 0] 24)).alloc (.cells #[.pointer none, .slice none 0 0] 62)).heap[w.heap.size]? = some (.cells #[.int .i64 0, .int .i64 0] 24 (0, 0)) := blk_alloc (blk_alloc HBK.out _) _
    have hbe2 : Below w.heap.size w ((w1.alloc (.cells #[.int .i64 0, .int .i64 0] 24)).alloc (.cells #[.pointer none, .slice none 0 0] 62)) := below_alloc (below_alloc HB1.out _) _
    have hsz : w.heap.size < w1.heap.size + 1 := by have := HB1.out.size; omega
    have hsz2 : w1.heap.size + 1 < ((w1.alloc (.cells #[.int .i64 0, .int .i64 0] 24)).alloc (.cells #[.pointer none, .slice none 0 0] 62)).heap.size := by simp
    generalize (w1.alloc (.cells #[.int .i64 0, .int .i64 0] 24)).alloc (.cells #[.pointer none, .slice none 0 0] 62) = W2 at *
    generalize w1.heap.size + 1 = b at *
    have HB0 := Aside0.mk hB0
    have HBK2 := Aside0.mk hbk2
    have HBE2 := Aside0.mk hbe2
    have HSZ := Aside0.mk hsz
    have HSZ2 := Aside0.mk hsz2
    clear hB0 hbk2 hbe2 hsz hsz2 HBK HB1
    go_loopw [16] (fun v wr => ∃ i : Nat, i ≤ l0.length ∧ v = .int .i64 i ∧ Aside0 (Lib.IsBuilder 62 5 b b (bv (joined (l0.take i))) wr) ∧ Aside0 (Below b W2 wr)) (fun v wr => l0.length - (intOf v).toNat)
    case atStart => exact ⟨0, Nat.zero_le _, rfl, HB0, ⟨Below.refl _ _⟩⟩
    case round =>
      obtain ⟨i, hi, rfl, HBi, HBe⟩ := hrel
      by_cases hlt : i < l0.length
      · obtain ⟨ad, e0, hx⟩ := Kd.at_string HR.out (i : Int) (by omega) (by omega)
        cases e0
        rw [Int.toNat_natCast] at hx
        have hj := joined_take l0 i hlt
        have hji := HJI.out i hlt
        have hj3 := HJ3_.out i hlt
        have hx2 : wr.cell? (ad.add i) = some (.string (rdOf ByteArray.empty l0 (i : Int))) := by
          have h1 : W2.cell? (ad.add i) = _ := (HBE2.out.cell (World.block_lt_of_cell? w _ hx)).trans hx
          have h2 := World.block_lt_of_cell? w _ hx
          exact (HBe.out.cell (by have := HSZ.out; omega)).trans h1
        generalize rdOf ByteArray.empty l0 (i : Int) = s at *
        have HJ := Aside0.mk hj
        have HJ2 := Aside0.mk hji
        have HJ3 := Aside0.mk hj3
        clear hx hj hji hj3
        go_wp2_with fail
        refine (Bld.WriteString b b _ s _ HBi.out (by rw [bv_length]; exact HJ2.out) (by have := HBe.out.size; have := HSZ2.out; omega)).mono ?_
        rintro e w3 ⟨rfl, h3, hb3⟩
        rw [bv_str] at h3
        have H3 := Aside0.mk h3
        have HB3 := Aside0.mk hb3
        clear h3 hb3
        go_wp2_with fail
        refine (Bld.WriteByte b b _ 10 _ (Or.inr H3.out) (by rw [bv_length, List.length_append, data_length]; have := HJ2.out; have := HJ3.out; omega) (by have := HBe.out.size; have := HSZ2.out; have := HB3.out.size; omega)).mono ?_
        rintro e w4 ⟨rfl, h4, hb4⟩
        rw [bv_nl, ← HJ.out] at h4
        have H4 := Aside0.mk h4
        have HB4 := Aside0.mk hb4
        clear h4 hb4
        go_wp2
        go_roundw
        case rel => exact ⟨i + 1, by omega, by go_num, ⟨Or.inr H4.out⟩, ⟨(HBe.out.trans HB3.out).trans HB4.out⟩⟩
        case measure => simp [intOf]; omega
      · obtain rfl : i = l0.length := by omega
        have hfull : l0.take l0.length = l0 := List.take_length
        rw [hfull] at HBi
        have hR : wr.heap[w.heap.size]? = some (.cells #[.int .i64 0, .int .i64 0] 24 (0, 0)) := (HBe.out.block _ HSZ.out).trans HBK2.out
        have hRB : Below w.heap.size w wr := HBE2.out.trans (HBe.out.mono (by have := HSZ.out; omega))
        have hRS : b < wr.heap.size := by have := HBe.out.size; have := HSZ2.out; omega
        have HR1 := Aside0.mk hR
        have HR2 := Aside0.mk hRB
        have HR3 := Aside0.mk hRS
        clear hR hRB hRS hlt hfull HBe
        go_wp2_with fail
        refine (Go.Proofs.Try.Builder_Len b b _ _ HBi.out).mono ?_
        rintro e w3 ⟨rfl, rfl⟩
        by_cases hc : 4096 < (joined l0).length
        · have hh := HH.out
          rw [if_pos hc] at hh
          simp only [Option.some.injEq, Prod.mk.injEq] at hh
          obtain ⟨rfl, rfl, rfl⟩ := hh
          have hc2 : decide ((4096 : Int) < ((bv (joined l0)).length : Int)) = true := by rw [bv_length]; exact decide_eq_true (by omega)
          have hc3 : decide (4096 < (bv (joined l0)).length) = true := by rw [bv_length]; exact decide_eq_true hc
          obtain ⟨x0, x1, y0, y1, hlt⟩ := box_facts HR1.out
          go_wp2
          refine bodyPost_ret (results_tc rfl _ _ w.heap.size 24 #[.int .i64 10, .int .i64 (-1)] (0, 0) _ rfl (blk_put (cs := #[.int .i64 10, .int .i64 0]) (blk_put (cs := #[.int .i64 0, .int .i64 0]) HR1.out 0 _ rfl) 1 _ rfl) Try.underlying24 rfl (by kernel_rfl)) rfl ?_
          exact ⟨rfl, (HR2.out.setCell (Nat.le_refl _) _).setCell (Nat.le_refl _) _⟩
        · have hh := HH.out
          rw [if_neg hc] at hh
          simp only [Option.some.injEq, Prod.mk.injEq] at hh
          obtain ⟨rfl, rfl, rfl⟩ := hh
          have hc2 : decide ((4096 : Int) < ((bv (joined l0)).length : Int)) = false := by rw [bv_length]; exact decide_eq_false (by omega)
          have hc3 : decide (4096 < (bv (joined l0)).length) = false := by rw [bv_length]; exact decide_eq_false hc
          go_wp2_with fail
          refine (Go.Proofs.Try.Builder_String_any b b (joined l0) _ HBi.out (Nat.le_of_lt HR3.out)).mono ?_
          rintro e w4 ⟨rfl, hb4⟩
          have hR4 := (hb4.block _ HSZ.out).trans HR1.out
          have HR4 := Aside0.mk hR4
          have HB4 := Aside0.mk (HR2.out.trans (hb4.mono (Nat.le_of_lt HSZ.out)))
          obtain ⟨x0, x1, y0, y1, hlt⟩ := box_facts hR4
          clear hR4 hb4
          go_wp2
          refine bodyPost_ret (results_tc rfl _ _ w.heap.size 24 #[.int .i64 0, .int .i64 0] (0, 0) _ rfl (blk_put (cs := #[.int .i64 0, .int .i64 0]) (blk_put (cs := #[.int .i64 0, .int .i64 0]) HR4.out 0 _ rfl) 1 _ rfl) Try.underlying24 rfl (by kernel_rfl)) rfl ?_
          exact ⟨rfl, (HB4.out.setCell (Nat.le_refl _) _).setCell (Nat.le_refl _) _⟩
  · rw [if_neg (fun e => z (congrArg Prod.fst e))] at h
    obtain ⟨⟨f1, f2⟩, hf⟩ : ∃ f, linesFault l0 = f := ⟨_, rfl⟩
    have hne : (!(f1 == 0) || (!(f2 == 0))) = true := by
      have := fault_ne (linesFault_or l0)
      rw [hf] at this z
      rw [this]
      exact decide_eq_true (fun e => z (congrArg Prod.fst e))
    have hv : lines_Validate.f l0 = some (f1, f2) := congrArg some hf
    simp only [Option.some.injEq, Prod.mk.injEq] at h
    rw [hf] at h
    obtain ⟨rfl, rfl, rfl⟩ := h
    have HV := Aside0.mk hv
    clear hv hf z
    go_enter Try.func27, Try.ntmps27
    go_wp2_with fail
    refine (lines_Validate.calls A0 c0 l0 r2 r3 _ (Kd.C_below hr0 (below_alloc (Below.refl _ _) _)) hc0 HV.out).mono ?_
    rintro e w1 ⟨rfl, hb⟩
    have hbk := blk_below (heap_alloc_new w _) hb
    have hb1 : Below w.heap.size w w1 := below_then ((Below.refl _ _).alloc (Nat.le_refl _) _) (by simp) hb
    obtain ⟨x0, x1, y0, y1, hlt⟩ := box_facts hbk
    have HBK := Aside0.mk hbk
    have HB1 := Aside0.mk hb1
    clear hbk hb hb1
    go_wp2_with fail
    go_region
    go_wp2
    refine bodyPost_ret (results_tc rfl _ _ w.heap.size 24 #[.int .i64 r2, .int .i64 r3] (0, 0) _ rfl (blk_drew (blk_alloc (blk_put (cs := #[.int .i64 r2, .int .i64 0]) (blk_put (cs := #[.int .i64 0, .int .i64 0]) HBK.out 0 _ rfl) 1 _ rfl) _)) Try.underlying24 rfl (by kernel_rfl)) rfl ?_
    exact ⟨rfl, below_drew (((HB1.out.setCell (Nat.le_refl _) _).setCell (Nat.le_refl _) _).alloc (by simp; omega) _)⟩


/-! ### changeforgelaw1_pair: function 32 -/
def changeforgelaw1_pair.f  : Option (Bool) := (lines_Split.f (⟨#[97, 10, 98]⟩ : ByteArray)).bind fun bt106 => ((lines_Join.f (([(⟨#[97]⟩ : ByteArray), (⟨#[98]⟩ : ByteArray)] : List ByteArray))).bind fun bt115 => (if bt106.2.1 = 0 then (if bt115.2.1 = 0 then ((changeforgeequal_Strings.f bt106.1 (([(⟨#[97]⟩ : ByteArray), (⟨#[98]⟩ : ByteArray)] : List ByteArray))).bind fun t122 => (if t122 = true then (some (bt115.1.toList == ([97, 10, 98, 10] : List UInt8))) else (some false))) else (some false)) else (some false)))
set_option maxHeartbeats 8000000 in
set_option maxRecDepth 100000 in
theorem changeforgelaw1_pair.calls  (r : Bool) (w : World) (h : changeforgelaw1_pair.f  = some r) :
    Calls Try.prog 32 #[] w fun e w' => e = .returned (.bool r) ∧ Below w.heap.size w w' := by
  have hu24 := Try.underlying24;have HB := Aside0.mk (Below.refl w.heap.size w);have H : ((lines_Split.f (⟨#[97, 10, 98]⟩ : ByteArray)).bind fun bt106 => ((lines_Join.f (([(⟨#[97]⟩ : ByteArray), (⟨#[98]⟩ : ByteArray)] : List ByteArray))).bind fun bt115 => (if bt106.2.1 = 0 then (if bt115.2.1 = 0 then ((changeforgeequal_Strings.f bt106.1 (([(⟨#[97]⟩ : ByteArray), (⟨#[98]⟩ : ByteArray)] : List ByteArray))).bind fun t122 => (if t122 = true then (some (bt115.1.toList == ([97, 10, 98, 10] : List UInt8))) else (some false))) else (some false)) else (some false)))) = some r := h;clear h;replace H := Option.bind_eq_some_iff.mp H;obtain ⟨⟨t106, t109, t110⟩, A10, H⟩ := H;replace H : ((lines_Join.f (([(⟨#[97]⟩ : ByteArray), (⟨#[98]⟩ : ByteArray)] : List ByteArray))).bind fun bt115 => (if t109 = 0 then (if bt115.2.1 = 0 then ((changeforgeequal_Strings.f t106 (([(⟨#[97]⟩ : ByteArray), (⟨#[98]⟩ : ByteArray)] : List ByteArray))).bind fun t122 => (if t122 = true then (some (bt115.1.toList == ([97, 10, 98, 10] : List UInt8))) else (some false))) else (some false)) else (some false))) = some r := H;have A1 := Aside0.mk A10;clear A10;obtain ⟨y112, hy112⟩ : ∃ y_ : List ByteArray, y_ = (([(⟨#[97]⟩ : ByteArray), (⟨#[98]⟩ : ByteArray)] : List ByteArray)) := ⟨_, rfl⟩;replace H : ((lines_Join.f y112).bind fun bt115 => (if t109 = 0 then (if bt115.2.1 = 0 then ((changeforgeequal_Strings.f t106 (([(⟨#[97]⟩ : ByteArray), (⟨#[98]⟩ : ByteArray)] : List ByteArray))).bind fun t122 => (if t122 = true then (some (bt115.1.toList == ([97, 10, 98, 10] : List UInt8))) else (some false))) else (some false)) else (some false))) = some r := (by first|(rw [hy112];with_reducible exact H)|(have H2_ := (Option.bind_some _ _).symm.trans H;rw [hy112];with_reducible exact H2_)|(have H2_ := (Option.bind_some _ _).symm.trans H;with_reducible exact H2_)|with_reducible exact H|(rw [hy112];exact H)|exact H);have Ny112 := Aside0.mk hy112;clear hy112;replace H := Option.bind_eq_some_iff.mp H;obtain ⟨⟨t115, t116, t117⟩, A20, H⟩ := H;replace H : (if t109 = 0 then (if t116 = 0 then ((changeforgeequal_Strings.f t106 (([(⟨#[97]⟩ : ByteArray), (⟨#[98]⟩ : ByteArray)] : List ByteArray))).bind fun t122 => (if t122 = true then (some (t115.toList == ([97, 10, 98, 10] : List UInt8))) else (some false))) else (some false)) else (some false)) = some r := H;have A2 := Aside0.mk A20;clear A20
  by_cases c3 : t109 = 0
  · rw [if_pos c3] at H;have c3b0 : (t109 == 0) = true := beq_iff_eq.mpr c3;have c3b1 : (t109 != 0) = false := bne_eq_false_iff_eq.mpr c3;clear c3
    by_cases c4 : t116 = 0
    · rw [if_pos c4] at H;have c4b0 : (t116 == 0) = true := beq_iff_eq.mpr c4;have c4b1 : (t116 != 0) = false := bne_eq_false_iff_eq.mpr c4;clear c4;obtain ⟨y119, hy119⟩ : ∃ y_ : List ByteArray, y_ = (([(⟨#[97]⟩ : ByteArray), (⟨#[98]⟩ : ByteArray)] : List ByteArray)) := ⟨_, rfl⟩;replace H : ((changeforgeequal_Strings.f t106 y119).bind fun t122 => (if t122 = true then (some (t115.toList == ([97, 10, 98, 10] : List UInt8))) else (some false))) = some r := (by first|(rw [hy119];with_reducible exact H)|(have H2_ := (Option.bind_some _ _).symm.trans H;rw [hy119];with_reducible exact H2_)|(have H2_ := (Option.bind_some _ _).symm.trans H;with_reducible exact H2_)|with_reducible exact H|(rw [hy119];exact H)|exact H);have Ny119 := Aside0.mk hy119;clear hy119;replace H := Option.bind_eq_some_iff.mp H;obtain ⟨t122, A50, H⟩ := H;replace H : (if t122 = true then (some (t115.toList == ([97, 10, 98, 10] : List UInt8))) else (some false)) = some r := H;have A5 := Aside0.mk A50;clear A50
      by_cases c6 : t122 = true
      · subst c6;have H1 : (some (t115.toList == ([97, 10, 98, 10] : List UInt8))) = some r := (by rw [if_pos rfl] at H;exact H);clear H;have H := H1;clear H1;obtain rfl := Option.some.inj H
        go_enter Try.func32, Try.ntmps32
        go_wp2_with (first|((with_reducible refine gate_callee (f := 25) rfl ?_);refine goesL_ (some 6) rfl rfl Try.func25 (by kernel_rfl) rfl #[.string (⟨#[97, 10, 98]⟩ : ByteArray)] rfl mA ?_;(with_reducible refine (lines_Split.calls (⟨#[97, 10, 98]⟩ : ByteArray) t106 t109 t110 _ A1.out).mono ?_);rintro e w7 ⟨v107, rfl, ho0, hb⟩;refine ⟨_, rfl, ?_⟩;have HO108 := Aside0.mk (Kd.R_lower ho0 (below_size eB));replace HB := sBe HB hb;(try clear hb ho0))|((with_reducible refine gate_dst (N := 2) rfl ?_);(try (refine gate_guard (by rfl) ?_;dsimp only));refine bE 2 #[.int .i64 0, .int .i64 0] 24 ?_;intro gb111 hg w8 hbox hb;have BK111 := Aside0.mk (hbox);have GW111 := gBe HB hg;have GE111 := gBe HB hg;replace HO108 := Aside0.mk (Kd.R_below (rK HO108) hb);replace HB := sBe HB hb;clear hb hbox hg;have hcz9_0 := hC BK111 0 (.int .i64 0);have hcz9_1 := hC BK111 1 (.int .i64 0);have hfz9_0 := blk_frozen BK111.out 0;have hfz9_1 := blk_frozen BK111.out 1)|((with_reducible refine gate_dst (N := 10) rfl ?_);(try (refine gate_guard (by rfl) ?_;dsimp only));refine Kd.R_lit Kd.string _ 9 ?hg (N := 10) ?hd (xs := ([(⟨#[97]⟩ : ByteArray), (⟨#[98]⟩ : ByteArray)] : List ByteArray)) (inner := [.string (⟨#[97]⟩ : ByteArray), .string (⟨#[98]⟩ : ByteArray)]) (ok := fun _ => True) (okp := fun _ => True) ?hr ?hp (fun _ hk => hk) trivial (Below.refl _ _) (Nat.le_refl _) (by simp) ?_;(case hd => rfl);(case hg => rfl);(case hr => first|(go_simp;done)|(go_simp;rfl));(case hp => exact (Reps.one (show Kd.M Kd.string _ _ _ (⟨#[97]⟩ : ByteArray) [.string (⟨#[97]⟩ : ByteArray)] from rfl) (Reps.one (show Kd.M Kd.string _ _ _ (⟨#[98]⟩ : ByteArray) [.string (⟨#[98]⟩ : ByteArray)] from rfl) (Reps.none _ _))));intro v113 w10 ho11 hb hg_ hnew_;clear hg_ hnew_;(first|rw [← Ny112.out] at ho11|(simp only [Int.reduceToNat] at ho11;rw [← Ny112.out] at ho11));have HO114 := Aside0.mk (Kd.R_lower (Kd.R_new' ho11 (Kd.R_lt (by (with_reducible repeat first|apply rA|apply rN|apply rD);exact (Kd.R_mono (Kd.R_far (p := ⟨gb111, 1, none⟩) (Kd.R_far (p := ⟨gb111, 0, none⟩) (Kd.R_types HO108.out BK111.out (by decide)) (fun _ hk => hk.2) (.int .i64 t109)) (fun _ hk => hk.2) (.int .i64 t110)) (fun _ h_ => h_.1))))) (below_size eB));replace HO108 := Aside0.mk (Kd.R_elder' (by (with_reducible repeat first|apply rA|apply rN|apply rD);exact (Kd.R_mono (Kd.R_far (p := ⟨gb111, 1, none⟩) (Kd.R_far (p := ⟨gb111, 0, none⟩) (Kd.R_types HO108.out BK111.out (by decide)) (fun _ hk => hk.2) (.int .i64 t109)) (fun _ hk => hk.2) (.int .i64 t110)) (fun _ h_ => h_.1))) (Kd.R_base ho11) hb);replace BK111 := lK gb111 24 #[.int .i64 t109, .int .i64 t110] hb;replace HB := sBe HB hb;clear hb ho11;obtain ⟨Ao12, co12, eo12⟩ := Kd.R_slice HO114.out;subst eo12)|((with_reducible refine gate_callee (f := 27) rfl ?_);refine goesL_ (some 11) rfl rfl Try.func27 (by kernel_rfl) rfl #[.slice Ao12 y112.length co12] rfl mA ?_;(with_reducible refine (lines_Join.calls _ _ y112 t115 t116 t117 _ ?side1 ?side2 A2.out).mono ?_);(case side1 => repeat (first|exact (Kd.R_reads' HO114.out).2.2|(with_reducible refine Kd.C_alloc ?_ _)|(with_reducible refine Kd.C_drewN ?_ _)|(with_reducible refine Kd.C_drew ?_)));(case side2 => exact (Kd.R_reads' HO114.out).2.1);rintro e w13 ⟨rfl, hb⟩;refine ⟨_, rfl, ?_⟩;replace HO108 := Aside0.mk (Kd.R_below (rK HO108) hb);replace HO114 := Aside0.mk (Kd.R_below (rK HO114) hb);replace BK111 := lJ BK111 hb;replace HB := sBe HB hb;(try clear hb))|((with_reducible refine gate_dst (N := 4) rfl ?_);(try (refine gate_guard (by rfl) ?_;dsimp only));refine bE 4 #[.int .i64 0, .int .i64 0] 24 ?_;intro gb118 hg w14 hbox hb;have BK118 := Aside0.mk (hbox);have GW118 := gBe HB hg;have GE118 := gBe HB hg;have NB111_118 := nL BK111 hg;have NB118_111 := nG BK111 hg;replace HO108 := Aside0.mk (Kd.R_below (rK HO108) hb);replace HO114 := Aside0.mk (Kd.R_below (rK HO114) hb);replace BK111 := lJ BK111 hb;replace HB := sBe HB hb;clear hb hbox hg;have hnb15 := NB118_111.out;have hnc15 := NB111_118.out;have hcz16_0 := hC BK118 0 (.int .i64 0);have hcz16_1 := hC BK118 1 (.int .i64 0);have hfz16_0 := blk_frozen BK118.out 0;have hfz16_1 := blk_frozen BK118.out 1;have hcz17_0 := hC BK111 0 (.int .i64 t109);have hcz17_1 := hC BK111 1 (.int .i64 t110);have hfz17_0 := blk_frozen BK111.out 0;have hfz17_1 := blk_frozen BK111.out 1)|((with_reducible refine gate_dst (N := 24) rfl ?_);(try (refine gate_guard (by rfl) ?_;dsimp only));refine Kd.R_lit Kd.string _ 9 ?hg (N := 24) ?hd (xs := ([(⟨#[97]⟩ : ByteArray), (⟨#[98]⟩ : ByteArray)] : List ByteArray)) (inner := [.string (⟨#[97]⟩ : ByteArray), .string (⟨#[98]⟩ : ByteArray)]) (ok := fun _ => True) (okp := fun _ => True) ?hr ?hp (fun _ hk => hk) trivial (Below.refl _ _) (Nat.le_refl _) (by simp) ?_;(case hd => rfl);(case hg => rfl);(case hr => first|(go_simp;done)|(go_simp;rfl));(case hp => exact (Reps.one (show Kd.M Kd.string _ _ _ (⟨#[97]⟩ : ByteArray) [.string (⟨#[97]⟩ : ByteArray)] from rfl) (Reps.one (show Kd.M Kd.string _ _ _ (⟨#[98]⟩ : ByteArray) [.string (⟨#[98]⟩ : ByteArray)] from rfl) (Reps.none _ _))));intro v120 w18 ho19 hb hg_ hnew_;clear hg_ hnew_;(first|rw [← Ny119.out] at ho19|(simp only [Int.reduceToNat] at ho19;rw [← Ny119.out] at ho19));have HO121 := Aside0.mk (Kd.R_lower (Kd.R_new' (Kd.R_new' ho19 (Kd.R_lt (by (with_reducible repeat first|apply rA|apply rN|apply rD);exact (Kd.R_mono (Kd.R_far (p := ⟨gb118, 1, none⟩) (Kd.R_far (p := ⟨gb118, 0, none⟩) (Kd.R_types HO108.out BK118.out (by decide)) (fun _ hk => hk.2) (.int .i64 t116)) (fun _ hk => hk.2) (.int .i64 t117)) (fun _ h_ => h_.1))))) (Kd.R_lt (by (with_reducible repeat first|apply rA|apply rN|apply rD);exact (Kd.R_mono (Kd.R_far (p := ⟨gb118, 1, none⟩) (Kd.R_far (p := ⟨gb118, 0, none⟩) (Kd.R_types HO114.out BK118.out (by decide)) (fun _ hk => hk.2) (.int .i64 t116)) (fun _ hk => hk.2) (.int .i64 t117)) (fun _ h_ => h_.1))))) (below_size eB));replace HO108 := Aside0.mk (Kd.R_elder' (by (with_reducible repeat first|apply rA|apply rN|apply rD);exact (Kd.R_mono (Kd.R_far (p := ⟨gb118, 1, none⟩) (Kd.R_far (p := ⟨gb118, 0, none⟩) (Kd.R_types HO108.out BK118.out (by decide)) (fun _ hk => hk.2) (.int .i64 t116)) (fun _ hk => hk.2) (.int .i64 t117)) (fun _ h_ => h_.1))) (Kd.R_base ho19) hb);replace HO114 := Aside0.mk (Kd.R_elder' (by (with_reducible repeat first|apply rA|apply rN|apply rD);exact (Kd.R_mono (Kd.R_far (p := ⟨gb118, 1, none⟩) (Kd.R_far (p := ⟨gb118, 0, none⟩) (Kd.R_types HO114.out BK118.out (by decide)) (fun _ hk => hk.2) (.int .i64 t116)) (fun _ hk => hk.2) (.int .i64 t117)) (fun _ h_ => h_.1))) (Kd.R_base ho19) hb);replace BK111 := lJ BK111 hb;replace BK118 := lK gb118 24 #[.int .i64 t116, .int .i64 t117] hb;replace HB := sBe HB hb;clear hb ho19;obtain ⟨Ao20, co20, eo20⟩ := Kd.R_slice HO108.out;subst eo20;obtain ⟨Ao21, co21, eo21⟩ := Kd.R_slice HO121.out;subst eo21)|(go_at_call 31;(with_reducible refine (changeforgeequal_Strings.calls _ _ t106 _ _ y119 true _ ?side1 ?side2 ?side3 ?side4 A5.out).mono ?_);(case side1 => repeat (first|exact (Kd.R_reads' HO108.out).2.2|(with_reducible refine Kd.C_alloc ?_ _)|(with_reducible refine Kd.C_drewN ?_ _)|(with_reducible refine Kd.C_drew ?_)));(case side2 => exact (Kd.R_reads' HO108.out).2.1);(case side3 => repeat (first|exact (Kd.R_reads' HO121.out).2.2|(with_reducible refine Kd.C_alloc ?_ _)|(with_reducible refine Kd.C_drewN ?_ _)|(with_reducible refine Kd.C_drew ?_)));(case side4 => exact (Kd.R_reads' HO121.out).2.1);rintro e w' ⟨rfl, ⟨nd, rfl⟩⟩))
        go_ret
        exact ⟨rW, eB⟩
      · replace c6 := Bool.eq_false_iff.mpr c6;subst c6;have H1 : (some false) = some r := (by rw [if_neg (show ¬ (false = true) by decide)] at H;exact H);clear H;have H := H1;clear H1;obtain rfl := Option.some.inj H
        go_enter Try.func32, Try.ntmps32
        go_wp2_with (first|((with_reducible refine gate_callee (f := 25) rfl ?_);refine goesL_ (some 6) rfl rfl Try.func25 (by kernel_rfl) rfl #[.string (⟨#[97, 10, 98]⟩ : ByteArray)] rfl mA ?_;(with_reducible refine (lines_Split.calls (⟨#[97, 10, 98]⟩ : ByteArray) t106 t109 t110 _ A1.out).mono ?_);rintro e w22 ⟨v107, rfl, ho0, hb⟩;refine ⟨_, rfl, ?_⟩;have HO108 := Aside0.mk (Kd.R_lower ho0 (below_size eB));replace HB := sBe HB hb;(try clear hb ho0))|((with_reducible refine gate_dst (N := 2) rfl ?_);(try (refine gate_guard (by rfl) ?_;dsimp only));refine bE 2 #[.int .i64 0, .int .i64 0] 24 ?_;intro gb111 hg w23 hbox hb;have BK111 := Aside0.mk (hbox);have GW111 := gBe HB hg;have GE111 := gBe HB hg;replace HO108 := Aside0.mk (Kd.R_below (rK HO108) hb);replace HB := sBe HB hb;clear hb hbox hg;have hcz24_0 := hC BK111 0 (.int .i64 0);have hcz24_1 := hC BK111 1 (.int .i64 0);have hfz24_0 := blk_frozen BK111.out 0;have hfz24_1 := blk_frozen BK111.out 1)|((with_reducible refine gate_dst (N := 10) rfl ?_);(try (refine gate_guard (by rfl) ?_;dsimp only));refine Kd.R_lit Kd.string _ 9 ?hg (N := 10) ?hd (xs := ([(⟨#[97]⟩ : ByteArray), (⟨#[98]⟩ : ByteArray)] : List ByteArray)) (inner := [.string (⟨#[97]⟩ : ByteArray), .string (⟨#[98]⟩ : ByteArray)]) (ok := fun _ => True) (okp := fun _ => True) ?hr ?hp (fun _ hk => hk) trivial (Below.refl _ _) (Nat.le_refl _) (by simp) ?_;(case hd => rfl);(case hg => rfl);(case hr => first|(go_simp;done)|(go_simp;rfl));(case hp => exact (Reps.one (show Kd.M Kd.string _ _ _ (⟨#[97]⟩ : ByteArray) [.string (⟨#[97]⟩ : ByteArray)] from rfl) (Reps.one (show Kd.M Kd.string _ _ _ (⟨#[98]⟩ : ByteArray) [.string (⟨#[98]⟩ : ByteArray)] from rfl) (Reps.none _ _))));intro v113 w25 ho26 hb hg_ hnew_;clear hg_ hnew_;(first|rw [← Ny112.out] at ho26|(simp only [Int.reduceToNat] at ho26;rw [← Ny112.out] at ho26));have HO114 := Aside0.mk (Kd.R_lower (Kd.R_new' ho26 (Kd.R_lt (by (with_reducible repeat first|apply rA|apply rN|apply rD);exact (Kd.R_mono (Kd.R_far (p := ⟨gb111, 1, none⟩) (Kd.R_far (p := ⟨gb111, 0, none⟩) (Kd.R_types HO108.out BK111.out (by decide)) (fun _ hk => hk.2) (.int .i64 t109)) (fun _ hk => hk.2) (.int .i64 t110)) (fun _ h_ => h_.1))))) (below_size eB));replace HO108 := Aside0.mk (Kd.R_elder' (by (with_reducible repeat first|apply rA|apply rN|apply rD);exact (Kd.R_mono (Kd.R_far (p := ⟨gb111, 1, none⟩) (Kd.R_far (p := ⟨gb111, 0, none⟩) (Kd.R_types HO108.out BK111.out (by decide)) (fun _ hk => hk.2) (.int .i64 t109)) (fun _ hk => hk.2) (.int .i64 t110)) (fun _ h_ => h_.1))) (Kd.R_base ho26) hb);replace BK111 := lK gb111 24 #[.int .i64 t109, .int .i64 t110] hb;replace HB := sBe HB hb;clear hb ho26;obtain ⟨Ao27, co27, eo27⟩ := Kd.R_slice HO114.out;subst eo27)|((with_reducible refine gate_callee (f := 27) rfl ?_);refine goesL_ (some 11) rfl rfl Try.func27 (by kernel_rfl) rfl #[.slice Ao27 y112.length co27] rfl mA ?_;(with_reducible refine (lines_Join.calls _ _ y112 t115 t116 t117 _ ?side1 ?side2 A2.out).mono ?_);(case side1 => repeat (first|exact (Kd.R_reads' HO114.out).2.2|(with_reducible refine Kd.C_alloc ?_ _)|(with_reducible refine Kd.C_drewN ?_ _)|(with_reducible refine Kd.C_drew ?_)));(case side2 => exact (Kd.R_reads' HO114.out).2.1);rintro e w28 ⟨rfl, hb⟩;refine ⟨_, rfl, ?_⟩;replace HO108 := Aside0.mk (Kd.R_below (rK HO108) hb);replace HO114 := Aside0.mk (Kd.R_below (rK HO114) hb);replace BK111 := lJ BK111 hb;replace HB := sBe HB hb;(try clear hb))|((with_reducible refine gate_dst (N := 4) rfl ?_);(try (refine gate_guard (by rfl) ?_;dsimp only));refine bE 4 #[.int .i64 0, .int .i64 0] 24 ?_;intro gb118 hg w29 hbox hb;have BK118 := Aside0.mk (hbox);have GW118 := gBe HB hg;have GE118 := gBe HB hg;have NB111_118 := nL BK111 hg;have NB118_111 := nG BK111 hg;replace HO108 := Aside0.mk (Kd.R_below (rK HO108) hb);replace HO114 := Aside0.mk (Kd.R_below (rK HO114) hb);replace BK111 := lJ BK111 hb;replace HB := sBe HB hb;clear hb hbox hg;have hnb30 := NB118_111.out;have hnc30 := NB111_118.out;have hcz31_0 := hC BK118 0 (.int .i64 0);have hcz31_1 := hC BK118 1 (.int .i64 0);have hfz31_0 := blk_frozen BK118.out 0;have hfz31_1 := blk_frozen BK118.out 1;have hcz32_0 := hC BK111 0 (.int .i64 t109);have hcz32_1 := hC BK111 1 (.int .i64 t110);have hfz32_0 := blk_frozen BK111.out 0;have hfz32_1 := blk_frozen BK111.out 1)|((with_reducible refine gate_dst (N := 24) rfl ?_);(try (refine gate_guard (by rfl) ?_;dsimp only));refine Kd.R_lit Kd.string _ 9 ?hg (N := 24) ?hd (xs := ([(⟨#[97]⟩ : ByteArray), (⟨#[98]⟩ : ByteArray)] : List ByteArray)) (inner := [.string (⟨#[97]⟩ : ByteArray), .string (⟨#[98]⟩ : ByteArray)]) (ok := fun _ => True) (okp := fun _ => True) ?hr ?hp (fun _ hk => hk) trivial (Below.refl _ _) (Nat.le_refl _) (by simp) ?_;(case hd => rfl);(case hg => rfl);(case hr => first|(go_simp;done)|(go_simp;rfl));(case hp => exact (Reps.one (show Kd.M Kd.string _ _ _ (⟨#[97]⟩ : ByteArray) [.string (⟨#[97]⟩ : ByteArray)] from rfl) (Reps.one (show Kd.M Kd.string _ _ _ (⟨#[98]⟩ : ByteArray) [.string (⟨#[98]⟩ : ByteArray)] from rfl) (Reps.none _ _))));intro v120 w33 ho34 hb hg_ hnew_;clear hg_ hnew_;(first|rw [← Ny119.out] at ho34|(simp only [Int.reduceToNat] at ho34;rw [← Ny119.out] at ho34));have HO121 := Aside0.mk (Kd.R_lower (Kd.R_new' (Kd.R_new' ho34 (Kd.R_lt (by (with_reducible repeat first|apply rA|apply rN|apply rD);exact (Kd.R_mono (Kd.R_far (p := ⟨gb118, 1, none⟩) (Kd.R_far (p := ⟨gb118, 0, none⟩) (Kd.R_types HO108.out BK118.out (by decide)) (fun _ hk => hk.2) (.int .i64 t116)) (fun _ hk => hk.2) (.int .i64 t117)) (fun _ h_ => h_.1))))) (Kd.R_lt (by (with_reducible repeat first|apply rA|apply rN|apply rD);exact (Kd.R_mono (Kd.R_far (p := ⟨gb118, 1, none⟩) (Kd.R_far (p := ⟨gb118, 0, none⟩) (Kd.R_types HO114.out BK118.out (by decide)) (fun _ hk => hk.2) (.int .i64 t116)) (fun _ hk => hk.2) (.int .i64 t117)) (fun _ h_ => h_.1))))) (below_size eB));replace HO108 := Aside0.mk (Kd.R_elder' (by (with_reducible repeat first|apply rA|apply rN|apply rD);exact (Kd.R_mono (Kd.R_far (p := ⟨gb118, 1, none⟩) (Kd.R_far (p := ⟨gb118, 0, none⟩) (Kd.R_types HO108.out BK118.out (by decide)) (fun _ hk => hk.2) (.int .i64 t116)) (fun _ hk => hk.2) (.int .i64 t117)) (fun _ h_ => h_.1))) (Kd.R_base ho34) hb);replace HO114 := Aside0.mk (Kd.R_elder' (by (with_reducible repeat first|apply rA|apply rN|apply rD);exact (Kd.R_mono (Kd.R_far (p := ⟨gb118, 1, none⟩) (Kd.R_far (p := ⟨gb118, 0, none⟩) (Kd.R_types HO114.out BK118.out (by decide)) (fun _ hk => hk.2) (.int .i64 t116)) (fun _ hk => hk.2) (.int .i64 t117)) (fun _ h_ => h_.1))) (Kd.R_base ho34) hb);replace BK111 := lJ BK111 hb;replace BK118 := lK gb118 24 #[.int .i64 t116, .int .i64 t117] hb;replace HB := sBe HB hb;clear hb ho34;obtain ⟨Ao35, co35, eo35⟩ := Kd.R_slice HO108.out;subst eo35;obtain ⟨Ao36, co36, eo36⟩ := Kd.R_slice HO121.out;subst eo36)|(go_at_call 31;(with_reducible refine (changeforgeequal_Strings.calls _ _ t106 _ _ y119 false _ ?side1 ?side2 ?side3 ?side4 A5.out).mono ?_);(case side1 => repeat (first|exact (Kd.R_reads' HO108.out).2.2|(with_reducible refine Kd.C_alloc ?_ _)|(with_reducible refine Kd.C_drewN ?_ _)|(with_reducible refine Kd.C_drew ?_)));(case side2 => exact (Kd.R_reads' HO108.out).2.1);(case side3 => repeat (first|exact (Kd.R_reads' HO121.out).2.2|(with_reducible refine Kd.C_alloc ?_ _)|(with_reducible refine Kd.C_drewN ?_ _)|(with_reducible refine Kd.C_drew ?_)));(case side4 => exact (Kd.R_reads' HO121.out).2.1);rintro e w' ⟨rfl, ⟨nd, rfl⟩⟩))
        go_ret
        exact ⟨rW, eB⟩
    · rw [if_neg c4] at H;have c4b0 : (t116 == 0) = false := beq_eq_false_iff_ne.mpr c4;have c4b1 : (t116 != 0) = true := bne_iff_ne.mpr c4;obtain rfl := Option.some.inj H
      go_enter Try.func32, Try.ntmps32
      go_wp2_with (first|((with_reducible refine gate_callee (f := 25) rfl ?_);refine goesL_ (some 6) rfl rfl Try.func25 (by kernel_rfl) rfl #[.string (⟨#[97, 10, 98]⟩ : ByteArray)] rfl mA ?_;(with_reducible refine (lines_Split.calls (⟨#[97, 10, 98]⟩ : ByteArray) t106 t109 t110 _ A1.out).mono ?_);rintro e w37 ⟨v107, rfl, ho0, hb⟩;refine ⟨_, rfl, ?_⟩;have HO108 := Aside0.mk (Kd.R_lower ho0 (below_size eB));replace HB := sBe HB hb;(try clear hb ho0))|((with_reducible refine gate_dst (N := 2) rfl ?_);(try (refine gate_guard (by rfl) ?_;dsimp only));refine bE 2 #[.int .i64 0, .int .i64 0] 24 ?_;intro gb111 hg w38 hbox hb;have BK111 := Aside0.mk (hbox);have GW111 := gBe HB hg;have GE111 := gBe HB hg;replace HO108 := Aside0.mk (Kd.R_below (rK HO108) hb);replace HB := sBe HB hb;clear hb hbox hg;have hcz39_0 := hC BK111 0 (.int .i64 0);have hcz39_1 := hC BK111 1 (.int .i64 0);have hfz39_0 := blk_frozen BK111.out 0;have hfz39_1 := blk_frozen BK111.out 1)|((with_reducible refine gate_dst (N := 10) rfl ?_);(try (refine gate_guard (by rfl) ?_;dsimp only));refine Kd.R_lit Kd.string _ 9 ?hg (N := 10) ?hd (xs := ([(⟨#[97]⟩ : ByteArray), (⟨#[98]⟩ : ByteArray)] : List ByteArray)) (inner := [.string (⟨#[97]⟩ : ByteArray), .string (⟨#[98]⟩ : ByteArray)]) (ok := fun _ => True) (okp := fun _ => True) ?hr ?hp (fun _ hk => hk) trivial (Below.refl _ _) (Nat.le_refl _) (by simp) ?_;(case hd => rfl);(case hg => rfl);(case hr => first|(go_simp;done)|(go_simp;rfl));(case hp => exact (Reps.one (show Kd.M Kd.string _ _ _ (⟨#[97]⟩ : ByteArray) [.string (⟨#[97]⟩ : ByteArray)] from rfl) (Reps.one (show Kd.M Kd.string _ _ _ (⟨#[98]⟩ : ByteArray) [.string (⟨#[98]⟩ : ByteArray)] from rfl) (Reps.none _ _))));intro v113 w40 ho41 hb hg_ hnew_;clear hg_ hnew_;(first|rw [← Ny112.out] at ho41|(simp only [Int.reduceToNat] at ho41;rw [← Ny112.out] at ho41));have HO114 := Aside0.mk (Kd.R_lower (Kd.R_new' ho41 (Kd.R_lt (by (with_reducible repeat first|apply rA|apply rN|apply rD);exact (Kd.R_mono (Kd.R_far (p := ⟨gb111, 1, none⟩) (Kd.R_far (p := ⟨gb111, 0, none⟩) (Kd.R_types HO108.out BK111.out (by decide)) (fun _ hk => hk.2) (.int .i64 t109)) (fun _ hk => hk.2) (.int .i64 t110)) (fun _ h_ => h_.1))))) (below_size eB));replace HO108 := Aside0.mk (Kd.R_elder' (by (with_reducible repeat first|apply rA|apply rN|apply rD);exact (Kd.R_mono (Kd.R_far (p := ⟨gb111, 1, none⟩) (Kd.R_far (p := ⟨gb111, 0, none⟩) (Kd.R_types HO108.out BK111.out (by decide)) (fun _ hk => hk.2) (.int .i64 t109)) (fun _ hk => hk.2) (.int .i64 t110)) (fun _ h_ => h_.1))) (Kd.R_base ho41) hb);replace BK111 := lK gb111 24 #[.int .i64 t109, .int .i64 t110] hb;replace HB := sBe HB hb;clear hb ho41;obtain ⟨Ao42, co42, eo42⟩ := Kd.R_slice HO114.out;subst eo42)|((with_reducible refine gate_callee (f := 27) rfl ?_);refine goesL_ (some 11) rfl rfl Try.func27 (by kernel_rfl) rfl #[.slice Ao42 y112.length co42] rfl mA ?_;(with_reducible refine (lines_Join.calls _ _ y112 t115 t116 t117 _ ?side1 ?side2 A2.out).mono ?_);(case side1 => repeat (first|exact (Kd.R_reads' HO114.out).2.2|(with_reducible refine Kd.C_alloc ?_ _)|(with_reducible refine Kd.C_drewN ?_ _)|(with_reducible refine Kd.C_drew ?_)));(case side2 => exact (Kd.R_reads' HO114.out).2.1);rintro e w43 ⟨rfl, hb⟩;refine ⟨_, rfl, ?_⟩;replace HO108 := Aside0.mk (Kd.R_below (rK HO108) hb);replace HO114 := Aside0.mk (Kd.R_below (rK HO114) hb);replace BK111 := lJ BK111 hb;replace HB := sBe HB hb;(try clear hb))|((with_reducible refine gate_dst (N := 4) rfl ?_);(try (refine gate_guard (by rfl) ?_;dsimp only));refine bE 4 #[.int .i64 0, .int .i64 0] 24 ?_;intro gb118 hg w44 hbox hb;have BK118 := Aside0.mk (hbox);have GW118 := gBe HB hg;have GE118 := gBe HB hg;have NB111_118 := nL BK111 hg;have NB118_111 := nG BK111 hg;replace HO108 := Aside0.mk (Kd.R_below (rK HO108) hb);replace HO114 := Aside0.mk (Kd.R_below (rK HO114) hb);replace BK111 := lJ BK111 hb;replace HB := sBe HB hb;clear hb hbox hg;have hnb45 := NB118_111.out;have hnc45 := NB111_118.out;have hcz46_0 := hC BK118 0 (.int .i64 0);have hcz46_1 := hC BK118 1 (.int .i64 0);have hfz46_0 := blk_frozen BK118.out 0;have hfz46_1 := blk_frozen BK118.out 1;have hcz47_0 := hC BK111 0 (.int .i64 t109);have hcz47_1 := hC BK111 1 (.int .i64 t110);have hfz47_0 := blk_frozen BK111.out 0;have hfz47_1 := blk_frozen BK111.out 1))
      go_ret
      exact ⟨rW, eB⟩
  · rw [if_neg c3] at H;have c3b0 : (t109 == 0) = false := beq_eq_false_iff_ne.mpr c3;have c3b1 : (t109 != 0) = true := bne_iff_ne.mpr c3;obtain rfl := Option.some.inj H
    go_enter Try.func32, Try.ntmps32
    go_wp2_with (first|((with_reducible refine gate_callee (f := 25) rfl ?_);refine goesL_ (some 6) rfl rfl Try.func25 (by kernel_rfl) rfl #[.string (⟨#[97, 10, 98]⟩ : ByteArray)] rfl mA ?_;(with_reducible refine (lines_Split.calls (⟨#[97, 10, 98]⟩ : ByteArray) t106 t109 t110 _ A1.out).mono ?_);rintro e w48 ⟨v107, rfl, ho0, hb⟩;refine ⟨_, rfl, ?_⟩;have HO108 := Aside0.mk (Kd.R_lower ho0 (below_size eB));replace HB := sBe HB hb;(try clear hb ho0))|((with_reducible refine gate_dst (N := 2) rfl ?_);(try (refine gate_guard (by rfl) ?_;dsimp only));refine bE 2 #[.int .i64 0, .int .i64 0] 24 ?_;intro gb111 hg w49 hbox hb;have BK111 := Aside0.mk (hbox);have GW111 := gBe HB hg;have GE111 := gBe HB hg;replace HO108 := Aside0.mk (Kd.R_below (rK HO108) hb);replace HB := sBe HB hb;clear hb hbox hg;have hcz50_0 := hC BK111 0 (.int .i64 0);have hcz50_1 := hC BK111 1 (.int .i64 0);have hfz50_0 := blk_frozen BK111.out 0;have hfz50_1 := blk_frozen BK111.out 1)|((with_reducible refine gate_dst (N := 10) rfl ?_);(try (refine gate_guard (by rfl) ?_;dsimp only));refine Kd.R_lit Kd.string _ 9 ?hg (N := 10) ?hd (xs := ([(⟨#[97]⟩ : ByteArray), (⟨#[98]⟩ : ByteArray)] : List ByteArray)) (inner := [.string (⟨#[97]⟩ : ByteArray), .string (⟨#[98]⟩ : ByteArray)]) (ok := fun _ => True) (okp := fun _ => True) ?hr ?hp (fun _ hk => hk) trivial (Below.refl _ _) (Nat.le_refl _) (by simp) ?_;(case hd => rfl);(case hg => rfl);(case hr => first|(go_simp;done)|(go_simp;rfl));(case hp => exact (Reps.one (show Kd.M Kd.string _ _ _ (⟨#[97]⟩ : ByteArray) [.string (⟨#[97]⟩ : ByteArray)] from rfl) (Reps.one (show Kd.M Kd.string _ _ _ (⟨#[98]⟩ : ByteArray) [.string (⟨#[98]⟩ : ByteArray)] from rfl) (Reps.none _ _))));intro v113 w51 ho52 hb hg_ hnew_;clear hg_ hnew_;(first|rw [← Ny112.out] at ho52|(simp only [Int.reduceToNat] at ho52;rw [← Ny112.out] at ho52));have HO114 := Aside0.mk (Kd.R_lower (Kd.R_new' ho52 (Kd.R_lt (by (with_reducible repeat first|apply rA|apply rN|apply rD);exact (Kd.R_mono (Kd.R_far (p := ⟨gb111, 1, none⟩) (Kd.R_far (p := ⟨gb111, 0, none⟩) (Kd.R_types HO108.out BK111.out (by decide)) (fun _ hk => hk.2) (.int .i64 t109)) (fun _ hk => hk.2) (.int .i64 t110)) (fun _ h_ => h_.1))))) (below_size eB));replace HO108 := Aside0.mk (Kd.R_elder' (by (with_reducible repeat first|apply rA|apply rN|apply rD);exact (Kd.R_mono (Kd.R_far (p := ⟨gb111, 1, none⟩) (Kd.R_far (p := ⟨gb111, 0, none⟩) (Kd.R_types HO108.out BK111.out (by decide)) (fun _ hk => hk.2) (.int .i64 t109)) (fun _ hk => hk.2) (.int .i64 t110)) (fun _ h_ => h_.1))) (Kd.R_base ho52) hb);replace BK111 := lK gb111 24 #[.int .i64 t109, .int .i64 t110] hb;replace HB := sBe HB hb;clear hb ho52;obtain ⟨Ao53, co53, eo53⟩ := Kd.R_slice HO114.out;subst eo53)|((with_reducible refine gate_callee (f := 27) rfl ?_);refine goesL_ (some 11) rfl rfl Try.func27 (by kernel_rfl) rfl #[.slice Ao53 y112.length co53] rfl mA ?_;(with_reducible refine (lines_Join.calls _ _ y112 t115 t116 t117 _ ?side1 ?side2 A2.out).mono ?_);(case side1 => repeat (first|exact (Kd.R_reads' HO114.out).2.2|(with_reducible refine Kd.C_alloc ?_ _)|(with_reducible refine Kd.C_drewN ?_ _)|(with_reducible refine Kd.C_drew ?_)));(case side2 => exact (Kd.R_reads' HO114.out).2.1);rintro e w54 ⟨rfl, hb⟩;refine ⟨_, rfl, ?_⟩;replace HO108 := Aside0.mk (Kd.R_below (rK HO108) hb);replace HO114 := Aside0.mk (Kd.R_below (rK HO114) hb);replace BK111 := lJ BK111 hb;replace HB := sBe HB hb;(try clear hb))|((with_reducible refine gate_dst (N := 4) rfl ?_);(try (refine gate_guard (by rfl) ?_;dsimp only));refine bE 4 #[.int .i64 0, .int .i64 0] 24 ?_;intro gb118 hg w55 hbox hb;have BK118 := Aside0.mk (hbox);have GW118 := gBe HB hg;have GE118 := gBe HB hg;have NB111_118 := nL BK111 hg;have NB118_111 := nG BK111 hg;replace HO108 := Aside0.mk (Kd.R_below (rK HO108) hb);replace HO114 := Aside0.mk (Kd.R_below (rK HO114) hb);replace BK111 := lJ BK111 hb;replace HB := sBe HB hb;clear hb hbox hg;have hnb56 := NB118_111.out;have hnc56 := NB111_118.out;have hcz57_0 := hC BK118 0 (.int .i64 0);have hcz57_1 := hC BK118 1 (.int .i64 0);have hfz57_0 := blk_frozen BK118.out 0;have hfz57_1 := blk_frozen BK118.out 1;have hcz58_0 := hC BK111 0 (.int .i64 t109);have hcz58_1 := hC BK111 1 (.int .i64 t110);have hfz58_0 := blk_frozen BK111.out 0;have hfz58_1 := blk_frozen BK111.out 1))
    go_ret
    exact ⟨rW, eB⟩

/-! ### lines_Code_0: function 54 -/
def lines_Code_0.f (l0 : List ByteArray) : Option (Int) := (lines_Validate.f l0).bind fun bt123 => (some bt123.1)
set_option maxHeartbeats 8000000 in
set_option maxRecDepth 100000 in
theorem lines_Code_0.calls (A0 : Option Addr) (c0 : Nat) (l0 : List ByteArray) (r : Int) (w : World) (hr0 : Kd.C Kd.string w A0 l0.length l0) (hc0 : l0.length ≤ c0) (h : lines_Code_0.f l0 = some r) :
    Calls Try.prog 54 #[.slice A0 l0.length c0] w fun e w' => e = .returned (.int .i64 r) ∧ Below w.heap.size w w' := by
  have hu24 := Try.underlying24
  have HR0 := Aside0.mk hr0
  have HC0 := Aside0.mk hc0
  clear hr0 hc0
  have HB := Aside0.mk (Below.refl w.heap.size w)
  have H : ((lines_Validate.f l0).bind fun bt123 => (some bt123.1)) = some r := h
  clear h
  replace H := Option.bind_eq_some_iff.mp H
  obtain ⟨⟨t123, t124⟩, A20, H⟩ := H
  replace H : (some t123) = some r := H
  have A2 := Aside0.mk A20
  clear A20
  obtain rfl := Option.some.inj H
  have hfd24_0_ := fun (a0_ a1_ : Int) (w_ : World) => (show (Instr.field 24 (.agg #[.int .i64 a0_, .int .i64 a1_]) 0).run Try.prog w_ = .ok (.int .i64 a0_) w_ by kernel_rfl)
  go_enter Try.func54, Try.ntmps54
  go_wp2_with (first | ((with_reducible refine gate_callee (f := 29) rfl ?_); refine goesL_ (some 4) rfl rfl Try.func29 (by kernel_rfl) rfl #[.slice A0 l0.length c0] rfl (by (try simp only [List.map_toArray, List.map_cons, List.map_nil]); first | done | rfl | (simp only [List.length_drop, List.length_take]; rfl)) ?_; (with_reducible refine (lines_Validate.calls _ _ l0 t123 t124 _ ?side1 ?side2 A2.out).mono ?_); (case side1 => repeat (first | exact HR0.out | (with_reducible refine Kd.C_alloc ?_ _) | (with_reducible refine Kd.C_drewN ?_ _) | (with_reducible refine Kd.C_drew ?_))); (case side2 => exact HC0.out); rintro e w3 ⟨rfl, hb⟩; refine ⟨_, rfl, ?_⟩; have n0_ := Aside0.mk (below_step (by repeat (first | (with_reducible first | exact HB.out | apply below_alloc | apply pw_below_drewN | apply below_drew1) | exact HB.out)) hb); clear HB; have HB := n0_; clear n0_; (try clear hb); (try clear hb2); (try clear hk); (try clear hi)))
  go_ret
  exact ⟨by first | rfl | (simp [errW_none, errW_some] <;> rfl) | (simp [*, errW_none, errW_some] <;> rfl), by repeat (first | (with_reducible first | exact HB.out | apply below_alloc | apply pw_below_drewN | apply below_drew1) | exact HB.out)⟩

/-! ### lines_Code: function 54 -/
def lines_Code.f (l0 : List ByteArray) : Option (Int) :=  some (linesFault l0).1
theorem lines_Code.calls (A0 : Option Addr) (c0 : Nat) (l0 : List ByteArray) (r : Int) (w : World) (hr0 : Kd.C Kd.string w A0 l0.length l0) (hc0 : l0.length ≤ c0) (h : lines_Code.f l0 = some r) :
    Calls Try.prog 54 #[.slice A0 l0.length c0] w fun e w' => e = .returned (.int .i64 r) ∧ Below w.heap.size w w' := by
  have h' : lines_Code_0.f l0 = some r := h
  exact (lines_Code_0.calls A0 c0 l0 r w hr0 hc0 (h'))


/-! ### lines_Two_0: function 45 -/
def lines_Two_0.f (l0 : List ByteArray) (l1 : List ByteArray) : Option (Int × Int) := (lines_Validate.f l0).bind fun bt126 => (if (!(bt126.1 == 0) || (!(bt126.2 == 0))) = true then (some (bt126.1, bt126.2)) else ((lines_Code.f l1).bind fun t129 => (if t129 = 0 then (some (0, 0)) else (some (t129, (-2))))))
set_option maxHeartbeats 8000000 in
set_option maxRecDepth 100000 in
theorem lines_Two_0.calls (A0 : Option Addr) (c0 : Nat) (l0 : List ByteArray) (A1 : Option Addr) (c1 : Nat) (l1 : List ByteArray) (r1 : Int) (r2 : Int) (w : World) (hr0 : Kd.C Kd.string w A0 l0.length l0) (hc0 : l0.length ≤ c0) (hr1 : Kd.C Kd.string w A1 l1.length l1) (hc1 : l1.length ≤ c1) (h : lines_Two_0.f l0 l1 = some (r1, r2)) :
    Calls Try.prog 45 #[.slice A0 l0.length c0, .slice A1 l1.length c1] w fun e w' => e = .returned (.agg #[.int .i64 r1, .int .i64 r2]) ∧ Below w.heap.size w w' := by
  have hu24 := Try.underlying24;have HR0 := Aside0.mk hr0;have HC0 := Aside0.mk hc0;clear hr0 hc0;have HR1 := Aside0.mk hr1;have HC1 := Aside0.mk hc1;clear hr1 hc1;have HB := Aside0.mk (Below.refl w.heap.size w);have H : ((lines_Validate.f l0).bind fun bt126 => (if (!(bt126.1 == 0) || (!(bt126.2 == 0))) = true then (some (bt126.1, bt126.2)) else ((lines_Code.f l1).bind fun t129 => (if t129 = 0 then (some (0, 0)) else (some (t129, (-2))))))) = some (r1, r2) := h;clear h;replace H := Option.bind_eq_some_iff.mp H;obtain ⟨⟨t126, t127⟩, A30, H⟩ := H;replace H : (if (!(t126 == 0) || (!(t127 == 0))) = true then (some (t126, t127)) else ((lines_Code.f l1).bind fun t129 => (if t129 = 0 then (some (0, 0)) else (some (t129, (-2)))))) = some (r1, r2) := H;have A3 := Aside0.mk A30;clear A30
  by_cases c4 : (!(t126 == 0) || (!(t127 == 0))) = true
  · rw [if_pos c4] at H;have c4b0 : (!(t126 == 0) || (!(t127 == 0))) = true := c4;clear c4;simp only [Option.some.injEq, Prod.mk.injEq] at H;obtain ⟨rfl, rfl⟩ := H
    go_enter Try.func45, Try.ntmps45
    go_wp2_with (first|((with_reducible refine gate_dst (N := 4) rfl ?_);refine bE 4 #[.int .i64 0, .int .i64 0] 24 ?_;intro gb125 hg w5 hbox hb;have BK125 := Aside0.mk (hbox);have GW125 := gBe HB hg;have GE125 := gBe HB hg;replace HB := sBe HB hb;clear hb hbox hg)|((with_reducible refine gate_callee (f := 29) rfl ?_);refine goesL_ (some 8) rfl rfl Try.func29 (by kernel_rfl) rfl #[.slice A0 l0.length c0] rfl mA ?_;(with_reducible refine (lines_Validate.calls _ _ l0 t126 t127 _ ?side1 ?side2 A3.out).mono ?_);(case side1 => exact cBe HR0);(case side2 => exact HC0.out);rintro e w6 ⟨rfl, hb⟩;refine ⟨_, rfl, ?_⟩;replace BK125 := lJ BK125 hb;replace HB := sBe HB hb;(try clear hb))|((with_reducible refine gate_dst (N := 5) rfl ?_);refine bE 5 #[.int .i64 0, .int .i64 0] 24 ?_;intro gb128 hg w7 hbox hb;have BK128 := Aside0.mk (hbox);have GW128 := gBe HB hg;have GE128 := gBe HB hg;have NB125_128 := nL BK125 hg;have NB128_125 := nG BK125 hg;replace BK125 := lJ BK125 hb;replace HB := sBe HB hb;clear hb hbox hg;have hnb8 := NB128_125.out;have hnc8 := NB125_128.out;have hcz9_0 := hC BK128 0 (.int .i64 0);have hcz9_1 := hC BK128 1 (.int .i64 0);have hfz9_0 := blk_frozen BK128.out 0;have hfz9_1 := blk_frozen BK128.out 1;have hcz10_0 := hC BK125 0 (.int .i64 0);have hcz10_1 := hC BK125 1 (.int .i64 0);have hfz10_0 := blk_frozen BK125.out 0;have hfz10_1 := blk_frozen BK125.out 1))
    refine bodyPost_ret (results_cell_row rfl _ _ gb125 24 #[.int .i64 t126, .int .i64 t127] (0, 0) _ rfl kK Try.underlying24 rfl (by kernel_rfl)) rfl ?_;exact ⟨rW, eB⟩
  · rw [if_neg c4] at H;have c4b0 : (!(t126 == 0) || (!(t127 == 0))) = false := (by simpa using c4);clear c4;replace H := Option.bind_eq_some_iff.mp H;obtain ⟨t129, A110, H⟩ := H;replace H : (if t129 = 0 then (some (0, 0)) else (some (t129, (-2)))) = some (r1, r2) := H;have A11 := Aside0.mk A110;clear A110
    by_cases c12 : t129 = 0
    · rw [if_pos c12] at H;have c12b0 : (t129 == 0) = true := beq_iff_eq.mpr c12;have c12b1 : (t129 != 0) = false := bne_eq_false_iff_eq.mpr c12;clear c12;simp only [Option.some.injEq, Prod.mk.injEq] at H;obtain ⟨rfl, rfl⟩ := H
      go_enter Try.func45, Try.ntmps45
      go_wp2_with (first|((with_reducible refine gate_dst (N := 4) rfl ?_);refine bE 4 #[.int .i64 0, .int .i64 0] 24 ?_;intro gb125 hg w13 hbox hb;have BK125 := Aside0.mk (hbox);have GW125 := gBe HB hg;have GE125 := gBe HB hg;replace HB := sBe HB hb;clear hb hbox hg)|((with_reducible refine gate_callee (f := 29) rfl ?_);refine goesL_ (some 8) rfl rfl Try.func29 (by kernel_rfl) rfl #[.slice A0 l0.length c0] rfl mA ?_;(with_reducible refine (lines_Validate.calls _ _ l0 t126 t127 _ ?side1 ?side2 A3.out).mono ?_);(case side1 => exact cBe HR0);(case side2 => exact HC0.out);rintro e w14 ⟨rfl, hb⟩;refine ⟨_, rfl, ?_⟩;replace BK125 := lJ BK125 hb;replace HB := sBe HB hb;(try clear hb))|((with_reducible refine gate_dst (N := 5) rfl ?_);refine bE 5 #[.int .i64 0, .int .i64 0] 24 ?_;intro gb128 hg w15 hbox hb;have BK128 := Aside0.mk (hbox);have GW128 := gBe HB hg;have GE128 := gBe HB hg;have NB125_128 := nL BK125 hg;have NB128_125 := nG BK125 hg;replace BK125 := lJ BK125 hb;replace HB := sBe HB hb;clear hb hbox hg;have hnb16 := NB128_125.out;have hnc16 := NB125_128.out;have hcz17_0 := hC BK128 0 (.int .i64 0);have hcz17_1 := hC BK128 1 (.int .i64 0);have hfz17_0 := blk_frozen BK128.out 0;have hfz17_1 := blk_frozen BK128.out 1)|((with_reducible refine gate_callee (f := 54) rfl ?_);refine goesL_ (some 14) rfl rfl Try.func54 (by kernel_rfl) rfl #[.slice A1 l1.length c1] rfl mA ?_;(with_reducible refine (lines_Code.calls _ _ l1 t129 _ ?side1 ?side2 A11.out).mono ?_);(case side1 => exact Kd.C_below HR1.out eB);(case side2 => exact HC1.out);rintro e w18 ⟨rfl, hb⟩;refine ⟨_, rfl, ?_⟩;replace BK125 := lJ BK125 hb;replace BK128 := lK gb128 24 #[.int .i64 t126, .int .i64 t127] hb;replace HB := sBe HB hb;(try clear hb);have hcz19_0 := hC BK125 0 (.int .i64 0);have hcz19_1 := hC BK125 1 (.int .i64 0);have hfz19_0 := blk_frozen BK125.out 0;have hfz19_1 := blk_frozen BK125.out 1))
      refine bodyPost_ret (results_cell_row rfl _ _ gb125 24 #[.int .i64 0, .int .i64 0] (0, 0) _ rfl kK Try.underlying24 rfl (by kernel_rfl)) rfl ?_;exact ⟨rW, eB⟩
    · rw [if_neg c12] at H;have c12b0 : (t129 == 0) = false := beq_eq_false_iff_ne.mpr c12;have c12b1 : (t129 != 0) = true := bne_iff_ne.mpr c12;simp only [Option.some.injEq, Prod.mk.injEq] at H;obtain ⟨rfl, rfl⟩ := H
      go_enter Try.func45, Try.ntmps45
      go_wp2_with (first|((with_reducible refine gate_dst (N := 4) rfl ?_);refine bE 4 #[.int .i64 0, .int .i64 0] 24 ?_;intro gb125 hg w20 hbox hb;have BK125 := Aside0.mk (hbox);have GW125 := gBe HB hg;have GE125 := gBe HB hg;replace HB := sBe HB hb;clear hb hbox hg)|((with_reducible refine gate_callee (f := 29) rfl ?_);refine goesL_ (some 8) rfl rfl Try.func29 (by kernel_rfl) rfl #[.slice A0 l0.length c0] rfl mA ?_;(with_reducible refine (lines_Validate.calls _ _ l0 t126 t127 _ ?side1 ?side2 A3.out).mono ?_);(case side1 => exact cBe HR0);(case side2 => exact HC0.out);rintro e w21 ⟨rfl, hb⟩;refine ⟨_, rfl, ?_⟩;replace BK125 := lJ BK125 hb;replace HB := sBe HB hb;(try clear hb))|((with_reducible refine gate_dst (N := 5) rfl ?_);refine bE 5 #[.int .i64 0, .int .i64 0] 24 ?_;intro gb128 hg w22 hbox hb;have BK128 := Aside0.mk (hbox);have GW128 := gBe HB hg;have GE128 := gBe HB hg;have NB125_128 := nL BK125 hg;have NB128_125 := nG BK125 hg;replace BK125 := lJ BK125 hb;replace HB := sBe HB hb;clear hb hbox hg;have hnb23 := NB128_125.out;have hnc23 := NB125_128.out;have hcz24_0 := hC BK128 0 (.int .i64 0);have hcz24_1 := hC BK128 1 (.int .i64 0);have hfz24_0 := blk_frozen BK128.out 0;have hfz24_1 := blk_frozen BK128.out 1)|((with_reducible refine gate_callee (f := 54) rfl ?_);refine goesL_ (some 14) rfl rfl Try.func54 (by kernel_rfl) rfl #[.slice A1 l1.length c1] rfl mA ?_;(with_reducible refine (lines_Code.calls _ _ l1 t129 _ ?side1 ?side2 A11.out).mono ?_);(case side1 => exact Kd.C_below HR1.out eB);(case side2 => exact HC1.out);rintro e w25 ⟨rfl, hb⟩;refine ⟨_, rfl, ?_⟩;replace BK125 := lJ BK125 hb;replace BK128 := lK gb128 24 #[.int .i64 t126, .int .i64 t127] hb;replace HB := sBe HB hb;(try clear hb);have hcz26_0 := hC BK125 0 (.int .i64 0);have hcz26_1 := hC BK125 1 (.int .i64 0);have hfz26_0 := blk_frozen BK125.out 0;have hfz26_1 := blk_frozen BK125.out 1))
      refine bodyPost_ret (results_cell_row rfl _ _ gb125 24 #[.int .i64 t129, .int .i64 (-2)] (0, 0) _ rfl kK Try.underlying24 rfl (by kernel_rfl)) rfl ?_;exact ⟨rW, eB⟩

/-! ### lines_Two: function 45 -/
def lines_Two.f (l0 : List ByteArray) (l1 : List ByteArray) : Option (Int × Int) :=  some (twoFault l0 l1)
theorem lines_Two.calls (A0 : Option Addr) (c0 : Nat) (l0 : List ByteArray) (A1 : Option Addr) (c1 : Nat) (l1 : List ByteArray) (r1 : Int) (r2 : Int) (w : World) (hr0 : Kd.C Kd.string w A0 l0.length l0) (hc0 : l0.length ≤ c0) (hr1 : Kd.C Kd.string w A1 l1.length l1) (hc1 : l1.length ≤ c1) (h : lines_Two.f l0 l1 = some (r1, r2)) :
    Calls Try.prog 45 #[.slice A0 l0.length c0, .slice A1 l1.length c1] w fun e w' => e = .returned (.agg #[.int .i64 r1, .int .i64 r2]) ∧ Below w.heap.size w w' := by
  have h' : lines_Two_0.f l0 l1 = some (r1, r2) := by
    rw [← h]
    unfold lines_Two_0.f lines_Two.f twoFault
    simp only [lines_Validate.f, lines_Code.f, Option.bind_some, fault_ne (linesFault_or l0), decide_eq_true_iff]
    by_cases c : linesFault l0 = (0, 0)
    · rw [if_neg (by simpa using c), if_pos c]
      by_cases c2 : (linesFault l1).1 = 0
      · rw [if_pos c2, if_pos c2]
      · rw [if_neg c2, if_neg c2]
    · rw [if_pos c, if_neg c]
  exact (lines_Two_0.calls A0 c0 l0 A1 c1 l1 r1 r2 w hr0 hc0 hr1 hc1 (h'))


end Go.Proofs.Ytdefgagmgbkklaa.PC
