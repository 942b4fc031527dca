/- Printed by a program of this session out of the translation: Lean functions for Go functions, and proofs that the Go functions answer the same. -/
import Derived.Test.YtifkadmljokffaaPX0
namespace Go.Proofs.Ytifkadmljokffaa.PX
open Go.RowKit Go.Proofs.Ytifkadmljokffaa.Pre Go.Proofs.YtifkadmljokffaaW.PrintWords Go.Proofs.YtifkadmljokffaaW.PrintLast Go.Proofs.YtifkadmljokffaaW.PrintMore
attribute [local go_sem] max2_int min2_int max_two min_two max_three min_three max_four min_four   -- for this text's walks alone
set_option linter.unusedVariables false
set_option linter.unusedSimpArgs false

/-! ### changeforgeequal_Strings_0: function 17 -/
def changeforgeequal_Strings_0.l0 : Nat → List ByteArray → List ByteArray → Int → Option (Bool)
  | 0, _, _, _ => none
  | k + 1, x0, x1, x5 => if x5 < (x0.length : Int) then (if 0 ≤ x5 then (if x5 < (x1.length : Int) then (if (rdOf ByteArray.empty x0 x5).toList = (rdOf ByteArray.empty x1 x5).toList then (changeforgeequal_Strings_0.l0 k x0 x1 (wrap64 (x5 + 1))) else (some false)) else (none)) else (none)) else (some true)
def changeforgeequal_Strings_0.f (k : Nat) (l0 : List ByteArray) (l1 : List ByteArray) : Option (Bool) := if (l0.length : Int) = (l1.length : Int) then (changeforgeequal_Strings_0.l0 k l0 l1 0) else (some false)
theorem changeforgeequal_Strings_0.mono_l : ∀ k, (∀ y0 y1 y2, LeO (changeforgeequal_Strings_0.l0 k y0 y1 y2) (changeforgeequal_Strings_0.l0 (k + 1) y0 y1 y2))
  | 0 => fun _ _ _ r h => by simp [changeforgeequal_Strings_0.l0] at h
  | k + 1 => by
    have ih0 := changeforgeequal_Strings_0.mono_l k
    · intro y0 y1 y2
      unfold changeforgeequal_Strings_0.l0
      repeat' first
      | (with_reducible exact ih0 _ _ _)
      | (with_reducible exact LeO.refl _)
      | (with_reducible exact LeO.none _)
      | (with_reducible refine LeO.ite ?_ ?_)
      | (with_reducible refine LeO.bind ?_ (fun _ => ?_))
      | exact ih0 _ _ _
      | exact LeO.none _
      | refine LeO.ite ?_ ?_
      | refine LeO.bind ?_ (fun _ => ?_)
theorem changeforgeequal_Strings_0.mono : ∀ a0 a1 k, LeO (changeforgeequal_Strings_0.f k a0 a1) (changeforgeequal_Strings_0.f (k + 1) a0 a1) := by
  intro a0 a1 k
  have ih0 := changeforgeequal_Strings_0.mono_l k
  unfold changeforgeequal_Strings_0.f
  repeat' first
      | (with_reducible exact ih0 _ _ _)
      | (with_reducible exact LeO.refl _)
      | (with_reducible exact LeO.none _)
      | (with_reducible refine LeO.ite ?_ ?_)
      | (with_reducible refine LeO.bind ?_ (fun _ => ?_))
      | exact ih0 _ _ _
      | exact LeO.none _
      | refine LeO.ite ?_ ?_
      | refine LeO.bind ?_ (fun _ => ?_)
set_option maxHeartbeats 8000000 in
set_option maxRecDepth 100000 in
theorem changeforgeequal_Strings_0.calls (k : Nat) (A0 : Option Addr) (c0 : Nat) (l0 : List ByteArray) (A1 : Option Addr) (c1 : Nat) (l1 : List ByteArray) (r : Bool) (w : World) (hr0 : Kd.C Kd.string w A0 l0.length l0) (hc0 : l0.length ≤ c0) (hr1 : Kd.C Kd.string w A1 l1.length l1) (hc1 : l1.length ≤ c1) (h : changeforgeequal_Strings_0.f k l0 l1 = some r) :
    Calls Try.prog 17 #[.slice A0 l0.length c0, .slice A1 l1.length c1] w fun e w' => e = .returned (.bool r) ∧ Drawn0 w w' := by
  have HR0 := Aside0.mk hr0;have HC0 := Aside0.mk hc0;clear hr0 hc0;have HR1 := Aside0.mk hr1;have HC1 := Aside0.mk hc1;clear hr1 hc1;have H : (if (l0.length : Int) = (l1.length : Int) then (changeforgeequal_Strings_0.l0 k l0 l1 0) else (some false)) = some r := h;clear h
  by_cases c3 : (l0.length : Int) = (l1.length : Int)
  · rw [if_pos c3] at H;have c3b0 : ((l0.length : Int) == (l1.length : Int)) = true := beq_iff_eq.mpr c3;have c3b1 : ((l0.length : Int) != (l1.length : Int)) = false := bne_eq_false_iff_eq.mpr c3;have c3b2 : (l0.length == l1.length) = true := (by first|simpa using c3|(simp at c3 ⊢;omega));clear c3;have H' := Aside0.mk H;clear H
    go_enter Try.func17, Try.ntmps17
    go_wp2
    repeat (go_quiet (fail);try go_wp2)
    go_loopg [5] k (fun kq v5 w' => ∃ (x5_1 : Int), v5 = .int .i64 x5_1 ∧ Aside0 (changeforgeequal_Strings_0.l0 kq l0 l1 x5_1 = some r) ∧ Aside0 (kq ≤ k) ∧ Drawn0 w w')
    case atStart => exact ⟨(0), (by first|rfl|(simp only [i64_w, i32_w];done)|(simp only [i64_w, i32_w];rfl)|(simp;done)|(simp [*];done)), H', ⟨Nat.le_refl _⟩, by repeat (first|exact Drawn0.refl _|apply Drawn0.step)⟩
    case round =>
      clear H'
      try clear c1
      try clear p2
      try clear c3
      try clear c3b0
      try clear c3b1
      try clear c3b2
      obtain ⟨x5_1, rfl, HA, HK1, ⟨m1, rfl⟩⟩ := hrel
      cases gk with
      | zero => exact absurd HA.out (by simp [changeforgeequal_Strings_0.l0])
      | succ k1 =>
        have H := HA.out;clear HA;simp only [changeforgeequal_Strings_0.l0] at H
        by_cases c4 : x5_1 < (l0.length : Int)
        · rw [if_pos c4] at H;have c4b0 : decide (x5_1 < (l0.length : Int)) = true := decide_eq_true c4;clear c4
          by_cases c5 : 0 ≤ x5_1
          · rw [if_pos c5] at H;have c5b0 : decide (0 ≤ x5_1) = true := decide_eq_true c5;clear c5
            by_cases c6 : x5_1 < (l1.length : Int)
            · rw [if_pos c6] at H;have c6b0 : decide (x5_1 < (l1.length : Int)) = true := decide_eq_true c6;clear c6
              by_cases c7 : (rdOf ByteArray.empty l0 x5_1).toList = (rdOf ByteArray.empty l1 x5_1).toList
              · rw [if_pos c7] at H;have c7b0 : ((rdOf ByteArray.empty l0 x5_1).toList == (rdOf ByteArray.empty l1 x5_1).toList) = true := beq_iff_eq.mpr c7;have c7b1 : ((rdOf ByteArray.empty l0 x5_1).toList != (rdOf ByteArray.empty l1 x5_1).toList) = false := bne_eq_false_iff_eq.mpr c7;clear c7;have H' := Aside0.mk H;clear H;have p101 : 0 ≤ (x5_1 : Int) := dA;have q101 : x5_1 < (l0.length : Int) := dA;obtain ⟨ad101, e101, hx101_0⟩ := Kd.at_string HR0.out x5_1 p101 q101
                cases e101
                replace p101 := eq_true p101;replace q101 := eq_true q101;have p102 : 0 ≤ (x5_1 : Int) := dA;have q102 : x5_1 < (l1.length : Int) := dA;obtain ⟨ad102, e102, hx102_0⟩ := Kd.at_string HR1.out x5_1 p102 q102
                cases e102
                replace p102 := eq_true p102;replace q102 := eq_true q102
                go_wp2
                repeat (go_quiet (fail);try go_wp2)
                go_roundg k1
                case measure => have := HK1.out;omega
                case rel => exact ⟨(wrap64 (x5_1 + 1)), (by first|rfl|(simp only [i64_w, i32_w];done)|(simp only [i64_w, i32_w];rfl)|(simp;done)|(simp [*];done)), H', ⟨by have := HK1.out;omega⟩, by repeat (first|exact Drawn0.refl _|apply Drawn0.step)⟩
              · rw [if_neg c7] at H;have c7b0 : ((rdOf ByteArray.empty l0 x5_1).toList == (rdOf ByteArray.empty l1 x5_1).toList) = false := beq_eq_false_iff_ne.mpr c7;have c7b1 : ((rdOf ByteArray.empty l0 x5_1).toList != (rdOf ByteArray.empty l1 x5_1).toList) = true := bne_iff_ne.mpr c7;obtain rfl := Option.some.inj H;have p101 : 0 ≤ (x5_1 : Int) := dA;have q101 : x5_1 < (l0.length : Int) := dA;obtain ⟨ad101, e101, hx101_0⟩ := Kd.at_string HR0.out x5_1 p101 q101
                cases e101
                replace p101 := eq_true p101;replace q101 := eq_true q101;have p102 : 0 ≤ (x5_1 : Int) := dA;have q102 : x5_1 < (l1.length : Int) := dA;obtain ⟨ad102, e102, hx102_0⟩ := Kd.at_string HR1.out x5_1 p102 q102
                cases e102
                replace p102 := eq_true p102;replace q102 := eq_true q102
                go_wp2
                repeat (go_quiet (fail);try go_wp2)
                go_ret
                exact ⟨by first|rfl|(simp;done)|(simp [*];done), by repeat (first|exact Drawn0.refl _|apply Drawn0.step)⟩
            · rw [if_neg c6] at H;exact absurd H (by simp)
          · rw [if_neg c5] at H;exact absurd H (by simp)
        · rw [if_neg c4] at H;have c4b0 : decide (x5_1 < (l0.length : Int)) = false := decide_eq_false c4;clear c4;obtain rfl := Option.some.inj H
          go_wp2
          repeat (go_quiet (fail);try go_wp2)
          go_ret
          exact ⟨by first|rfl|(simp;done)|(simp [*];done), by repeat (first|exact Drawn0.refl _|apply Drawn0.step)⟩
  · rw [if_neg c3] at H;have c3b0 : ((l0.length : Int) == (l1.length : Int)) = false := beq_eq_false_iff_ne.mpr c3;have c3b1 : ((l0.length : Int) != (l1.length : Int)) = true := bne_iff_ne.mpr c3;have c3b2 : (l0.length == l1.length) = false := (by first|simpa using c3|(simp at c3 ⊢;omega));obtain rfl := Option.some.inj H
    go_enter Try.func17, Try.ntmps17
    go_wp2
    repeat (go_quiet (fail);try go_wp2)
    go_ret
    exact ⟨by first|rfl|(simp;done)|(simp [*];done), by repeat (first|exact Drawn0.refl _|apply Drawn0.step)⟩

/-! ### changeforgeequal_Strings: function 17 -/
theorem changeforgeequal_Strings_0.loop (a b : List ByteArray) (hl : a.length = b.length) (hm : a.length ≤ 9223372036854775807) (d : Nat) : ∀ (k i : Nat), i ≤ a.length → a.length - i = d → d < k →
    changeforgeequal_Strings_0.l0 k a b (i : Int) = some (decide (a.drop i = b.drop i)) := by
  induction d with
  | zero =>
    intro k i hi hd hk
    obtain ⟨k, rfl⟩ : ∃ m, k = m + 1 := ⟨k - 1, by omega⟩
    simp only [changeforgeequal_Strings_0.l0]
    rw [if_neg (by omega), List.drop_eq_nil_of_le (by omega), List.drop_eq_nil_of_le (by omega)]
    rfl
  | succ d ih =>
    intro k i hi hd hk
    obtain ⟨k, rfl⟩ : ∃ m, k = m + 1 := ⟨k - 1, by omega⟩
    rw [rdOf_drop ByteArray.empty a i (by omega), rdOf_drop ByteArray.empty b i (by omega)]
    simp only [changeforgeequal_Strings_0.l0]
    rw [if_pos (by omega), if_pos (by omega), if_pos (by omega)]
    by_cases e : rdOf ByteArray.empty a (i : Int) = rdOf ByteArray.empty b (i : Int)
    · rw [if_pos (toList_inj.mpr e), w64 (by omega) (by omega)]
      have := ih k (i + 1) (by omega) (by omega) (by omega)
      rw [Int.natCast_add] at this
      rw [show (((1 : Nat) : Int)) = 1 from rfl] at this
      rw [this, e]
      simp
    · rw [if_neg (fun h => e (toList_inj.mp h))]
      simp [e]
def changeforgeequal_Strings.f (l0 : List ByteArray) (l1 : List ByteArray) : Option (Bool) :=  some (decide (l0 = l1))
theorem changeforgeequal_Strings.calls (A0 : Option Addr) (c0 : Nat) (l0 : List ByteArray) (A1 : Option Addr) (c1 : Nat) (l1 : List ByteArray) (r : Bool) (w : World) (hr0 : Kd.C Kd.string w A0 l0.length l0) (hc0 : l0.length ≤ c0) (hr1 : Kd.C Kd.string w A1 l1.length l1) (hc1 : l1.length ≤ c1) (h : changeforgeequal_Strings.f l0 l1 = some r) :
    Calls Try.prog 17 #[.slice A0 l0.length c0, .slice A1 l1.length c1] w fun e w' => e = .returned (.bool r) ∧ Drawn0 w w' := by
  have hm : l0.length ≤ 9223372036854775807 := hr0.2.1
  have h' : changeforgeequal_Strings_0.f (l0.length + 1) l0 l1 = some r := by
    rw [← h]
    unfold changeforgeequal_Strings_0.f changeforgeequal_Strings.f
    by_cases c : l0.length = l1.length
    · rw [if_pos (by omega)]
      have := changeforgeequal_Strings_0.loop l0 l1 c hm l0.length (l0.length + 1) 0 (by omega) (by omega) (by omega)
      simpa using this
    · rw [if_neg (by omega)]
      have : ¬ l0 = l1 := fun e => c (by rw [e])
      simp [this]
  exact (changeforgeequal_Strings_0.calls (l0.length + 1) A0 c0 l0 A1 c1 l1 r w hr0 hc0 hr1 hc1 (h'))


/-! ### strings_ContainsRune: function 77 -/
theorem indexByte_ge (c : UInt8) : ∀ l : List UInt8, decide (0 ≤ Lib.indexByte l c) = l.contains c ∧ -1 ≤ Lib.indexByte l c
  | [] => ⟨by simp [Lib.indexByte], by simp [Lib.indexByte]⟩
  | b :: l => by
    obtain ⟨ih1, ih2⟩ := indexByte_ge c l
    unfold Lib.indexByte
    by_cases h : b = c
    · subst h; simp
    · have hb : (b == c) = false := by simpa using h
      have hc : (c == b) = false := by simpa using fun e => h e.symm
      by_cases h2 : Lib.indexByte l c = -1
      · rw [h2] at ih1
        simp [h, h2] at ih1 ⊢
        exact ⟨fun e => h e.symm, ih1⟩
      · have h3 : (Lib.indexByte l c == -1) = false := by simpa using h2
        simp only [hb, h3, Bool.false_eq_true, if_false, List.contains_cons, hc, Bool.false_or]
        rw [← ih1]
        exact ⟨by rw [Bool.eq_iff_iff]; simp; omega, by omega⟩
def strings_ContainsRune.f (a0 : ByteArray) (a1 : Int) : Option (Bool) :=  if a1 = 10 then some (hasNl a0) else none
theorem strings_ContainsRune.calls (a0 : ByteArray) (a1 : Int) (r : Bool) (w : World) (h : strings_ContainsRune.f a0 a1 = some r) :
    Calls Try.prog 77 #[.string a0, .int .i32 a1] w fun e w' => e = .returned (.bool r) ∧ Drawn0 w w' := by
  unfold strings_ContainsRune.f at h
  split at h
  · rename_i e
    subst e
    obtain rfl := Option.some.inj h
    refine (Go.Proofs.Try.strings_ContainsRune_ascii a0 10 w (by omega) (by omega)).mono ?_
    rintro e w' ⟨rfl, rfl⟩
    refine ⟨?_, Drawn0.refl _⟩
    have e10 : (10 : Int).toNat.toUInt8 = 10 := by decide
    rw [e10, (indexByte_ge 10 a0.data.toList).1]
    rfl
  · cases h


/-! ### lines_Validate_0: function 69 -/
def lines_Validate_0.l0 : Nat → List ByteArray → Int → Int → Option (Int × Int)
  | 0, _, _, _ => none
  | k + 1, x9, x10, x11 => if x11 < x10 then (if 0 ≤ x11 then (if x11 < (x9.length : Int) then (if ((rdOf ByteArray.empty x9 x11).size : Int) > 80 then (some (2, x11)) else ((strings_ContainsRune.f (rdOf ByteArray.empty x9 x11) 10).bind fun t105 => (if t105 = true then (some (5, x11)) else (lines_Validate_0.l0 k x9 x10 (wrap64 (x11 + 1)))))) else (none)) else (none)) else (some (0, 0))
def lines_Validate_0.f (k : Nat) (l0 : List ByteArray) : Option (Int × Int) := if (l0.length : Int) > 120 then (some (2, (-1))) else (lines_Validate_0.l0 k l0 (l0.length : Int) 0)
theorem lines_Validate_0.mono_l : ∀ k, (∀ y0 y1 y2, LeO (lines_Validate_0.l0 k y0 y1 y2) (lines_Validate_0.l0 (k + 1) y0 y1 y2))
  | 0 => fun _ _ _ r h => by simp [lines_Validate_0.l0] at h
  | k + 1 => by
    have ih0 := lines_Validate_0.mono_l k
    · intro y0 y1 y2
      unfold lines_Validate_0.l0
      repeat' first
      | (with_reducible exact ih0 _ _ _)
      | (with_reducible exact LeO.refl _)
      | (with_reducible exact LeO.none _)
      | (with_reducible refine LeO.ite ?_ ?_)
      | (with_reducible refine LeO.bind ?_ (fun _ => ?_))
      | exact ih0 _ _ _
      | exact LeO.none _
      | refine LeO.ite ?_ ?_
      | refine LeO.bind ?_ (fun _ => ?_)
theorem lines_Validate_0.mono : ∀ a0 k, LeO (lines_Validate_0.f k a0) (lines_Validate_0.f (k + 1) a0) := by
  intro a0 k
  have ih0 := lines_Validate_0.mono_l k
  unfold lines_Validate_0.f
  repeat' first
      | (with_reducible exact ih0 _ _ _)
      | (with_reducible exact LeO.refl _)
      | (with_reducible exact LeO.none _)
      | (with_reducible refine LeO.ite ?_ ?_)
      | (with_reducible refine LeO.bind ?_ (fun _ => ?_))
      | exact ih0 _ _ _
      | exact LeO.none _
      | refine LeO.ite ?_ ?_
      | refine LeO.bind ?_ (fun _ => ?_)
set_option maxHeartbeats 8000000 in
set_option maxRecDepth 100000 in
theorem lines_Validate_0.calls (k : Nat) (A0 : Option Addr) (c0 : Nat) (l0 : List ByteArray) (r1 : Int) (r2 : Int) (w : World) (hr0 : Kd.C Kd.string w A0 l0.length l0) (hc0 : l0.length ≤ c0) (h : lines_Validate_0.f k l0 = some (r1, r2)) :
    Calls Try.prog 69 #[.slice A0 l0.length c0] w fun e w' => e = .returned (.agg #[.int .i64 r1, .int .i64 r2]) ∧ Below w.heap.size w w' := by
  have hu24 := Try.underlying24;have HR0 := Aside0.mk hr0;have HC0 := Aside0.mk hc0;clear hr0 hc0;have HB := Aside0.mk (Below.refl w.heap.size w);have H : (if (l0.length : Int) > 120 then (some (2, (-1))) else (lines_Validate_0.l0 k l0 (l0.length : Int) 0)) = some (r1, r2) := h;clear h
  by_cases c2 : (l0.length : Int) > 120
  · rw [if_pos c2] at H;have c2b0 : decide (120 < (l0.length : Int)) = true := decide_eq_true c2;have c2b1 : decide (120 < l0.length) = true := decide_eq_true (by omega);clear c2;simp only [Option.some.injEq, Prod.mk.injEq] at H;obtain ⟨rfl, rfl⟩ := H
    go_enter Try.func69, Try.ntmps69
    go_wp2_with (first|((with_reducible refine gate_dst (N := 2) rfl ?_);refine bE 2 #[.int .i64 0, .int .i64 0] 24 ?_;intro gb103 hg w3 hbox hb;have BK103 := Aside0.mk (hbox);have GW103 := gBe HB hg;have GE103 := gBe HB hg;replace HB := sBe HB hb;clear hb hbox hg;have hcz4_0 := hC BK103 0 (.int .i64 0);have hcz4_1 := hC BK103 1 (.int .i64 0);have hfz4_0 := blk_frozen BK103.out 0;have hfz4_1 := blk_frozen BK103.out 1))
    refine bodyPost_ret (results_cell_row rfl _ _ gb103 24 #[.int .i64 2, .int .i64 (-1)] (0, 0) _ rfl kK Try.underlying24 rfl (by kernel_rfl)) rfl ?_;exact ⟨rW, eB⟩
  · rw [if_neg c2] at H;have c2b0 : decide (120 < (l0.length : Int)) = false := decide_eq_false c2;have c2b1 : decide (120 < l0.length) = false := decide_eq_false (by omega);clear c2;have H' := Aside0.mk H;clear H
    go_enter Try.func69, Try.ntmps69
    go_wp2_with (first|((with_reducible refine gate_dst (N := 2) rfl ?_);refine bE 2 #[.int .i64 0, .int .i64 0] 24 ?_;intro gb103 hg w5 hbox hb;have BK103 := Aside0.mk (hbox);have GW103 := gBe HB hg;have GE103 := gBe HB hg;replace HB := sBe HB hb;clear hb hbox hg))
    go_loopg [11] k (fun kq v11 w' => ∃ (x11_1 : Int) (x104000_1 : Int) (x104001_1 : Int), v11 = .int .i64 x11_1 ∧ Aside0 (lines_Validate_0.l0 kq l0 (l0.length : Int) x11_1 = some (r1, r2)) ∧ Aside0 (kq ≤ k) ∧ Bk w' gb103 24 #[.int .i64 x104000_1, .int .i64 x104001_1] ∧ Aside0 (Below w.heap.size w w'))
    case atStart => exact ⟨(0), (0), (0), (by first|rfl|(simp only [i64_w, i32_w];done)|(simp only [i64_w, i32_w];rfl)|(simp;done)|(simp [*];done)), H', ⟨Nat.le_refl _⟩, ⟨kK⟩, ⟨eB⟩⟩
    case round =>
      clear H'
      try clear c2
      try clear c2b0
      try clear c2b1
      try clear p2
      try clear hcz4_0
      try clear hcz4_1
      try clear hfz4_0
      try clear hfz4_1
      obtain ⟨x11_1, x104000_1, x104001_1, rfl, HA, HK1, BK103, HB⟩ := hrel
      cases gk with
      | zero => exact absurd HA.out (by simp [lines_Validate_0.l0])
      | succ k1 =>
        have H := HA.out;clear HA;simp only [lines_Validate_0.l0] at H
        by_cases c6 : x11_1 < (l0.length : Int)
        · rw [if_pos c6] at H;have c6b0 : decide (x11_1 < (l0.length : Int)) = true := decide_eq_true c6;clear c6
          by_cases c7 : 0 ≤ x11_1
          · rw [if_pos c7] at H;have c7b0 : decide (0 ≤ x11_1) = true := decide_eq_true c7;clear c7
            by_cases c8 : x11_1 < (l0.length : Int)
            · rw [if_pos c8] at H;have c8b0 : decide (x11_1 < (l0.length : Int)) = true := decide_eq_true c8;clear c8
              by_cases c9 : ((rdOf ByteArray.empty l0 x11_1).size : Int) > 80
              · rw [if_pos c9] at H;have c9b0 : decide (80 < ((rdOf ByteArray.empty l0 x11_1).size : Int)) = true := decide_eq_true c9;have c9b1 : decide (80 < (rdOf ByteArray.empty l0 x11_1).size) = true := decide_eq_true (by omega);clear c9;simp only [Option.some.injEq, Prod.mk.injEq] at H;obtain ⟨rfl, rfl⟩ := H;have p104 : 0 ≤ (x11_1 : Int) := dA;have q104 : x11_1 < (l0.length : Int) := dA;obtain ⟨ad104, e104, hx104_0⟩ := Kd.at_string HR0.out x11_1 p104 q104
                cases e104
                replace hx104_0 := (hX HB hx104_0:);replace p104 := eq_true p104;replace q104 := eq_true q104;have hcz10_0 : wr.cell? ⟨gb103, 0, none⟩ = some (.int .i64 x104000_1) := (blk_cell BK103.out 0).trans rfl;have hcz10_1 : wr.cell? ⟨gb103, 1, none⟩ = some (.int .i64 x104001_1) := (blk_cell BK103.out 1).trans rfl;have hfz10_0 := blk_frozen BK103.out 0;have hfz10_1 := blk_frozen BK103.out 1
                go_wp2
                refine bodyPost_ret (results_cell_row rfl _ _ gb103 24 #[.int .i64 2, .int .i64 x11_1] (0, 0) _ rfl kK Try.underlying24 rfl (by kernel_rfl)) rfl ?_;exact ⟨rW, eB⟩
              · rw [if_neg c9] at H;have c9b0 : decide (80 < ((rdOf ByteArray.empty l0 x11_1).size : Int)) = false := decide_eq_false c9;have c9b1 : decide (80 < (rdOf ByteArray.empty l0 x11_1).size) = false := decide_eq_false (by omega);clear c9;replace H := Option.bind_eq_some_iff.mp H;obtain ⟨t105, A110, H⟩ := H;replace H : (if t105 = true then (some (5, x11_1)) else (lines_Validate_0.l0 k1 l0 (l0.length : Int) (wrap64 (x11_1 + 1)))) = some (r1, r2) := H;have A11 := Aside0.mk A110;clear A110
                by_cases c12 : t105 = true
                · subst c12;have H1 : (some (5, x11_1)) = some (r1, r2) := (by rw [if_pos rfl] at H;exact H);clear H;have H := H1;clear H1;simp only [Option.some.injEq, Prod.mk.injEq] at H;obtain ⟨rfl, rfl⟩ := H;have p104 : 0 ≤ (x11_1 : Int) := dA;have q104 : x11_1 < (l0.length : Int) := dA;obtain ⟨ad104, e104, hx104_0⟩ := Kd.at_string HR0.out x11_1 p104 q104
                  cases e104
                  replace hx104_0 := (hX HB hx104_0:);replace p104 := eq_true p104;replace q104 := eq_true q104
                  go_wp2_with (first|((with_reducible refine gate_callee (f := 77) rfl ?_);refine goesL_ (some 24) rfl rfl Try.func77 (by kernel_rfl) rfl #[.string (rdOf ByteArray.empty l0 x11_1), .int .i32 10] rfl mA ?_;(with_reducible refine (strings_ContainsRune.calls (rdOf ByteArray.empty l0 x11_1) 10 true _ A11.out).mono ?_);rintro e w' ⟨rfl, ⟨nd, rfl⟩⟩;refine ⟨_, rfl, ?_⟩;(try (rw [drewN_self wr];generalize hq_ : World.drewN wr _ = wr;have n0_ : Aside0 (wr.heap[gb103]? = some (.cells #[.int .i64 x104000_1, .int .i64 x104001_1] 24 (0, 0))) := ⟨by rw [← hq_];exact kK⟩;have n1_ : Aside0 (Below w.heap.size w wr) := ⟨by rw [← hq_];exact eB⟩;clear BK103 HB hq_;have BK103 := n0_;have HB := n1_;clear n0_ n1_));have hcz13_0 : wr.cell? ⟨gb103, 0, none⟩ = some (.int .i64 x104000_1) := (blk_cell BK103.out 0).trans rfl;have hcz13_1 : wr.cell? ⟨gb103, 1, none⟩ = some (.int .i64 x104001_1) := (blk_cell BK103.out 1).trans rfl;have hfz13_0 := blk_frozen BK103.out 0;have hfz13_1 := blk_frozen BK103.out 1))
                  refine bodyPost_ret (results_cell_row rfl _ _ gb103 24 #[.int .i64 5, .int .i64 x11_1] (0, 0) _ rfl kK Try.underlying24 rfl (by kernel_rfl)) rfl ?_;exact ⟨rW, eB⟩
                · replace c12 := Bool.eq_false_iff.mpr c12;subst c12;have H1 : (lines_Validate_0.l0 k1 l0 (l0.length : Int) (wrap64 (x11_1 + 1))) = some (r1, r2) := (by rw [if_neg (show ¬ (false = true) by decide)] at H;exact H);clear H;have H := H1;clear H1;have H' := Aside0.mk H;clear H;have p104 : 0 ≤ (x11_1 : Int) := dA;have q104 : x11_1 < (l0.length : Int) := dA;obtain ⟨ad104, e104, hx104_0⟩ := Kd.at_string HR0.out x11_1 p104 q104
                  cases e104
                  replace hx104_0 := (hX HB hx104_0:);replace p104 := eq_true p104;replace q104 := eq_true q104
                  go_wp2_with (first|((with_reducible refine gate_callee (f := 77) rfl ?_);refine goesL_ (some 24) rfl rfl Try.func77 (by kernel_rfl) rfl #[.string (rdOf ByteArray.empty l0 x11_1), .int .i32 10] rfl mA ?_;(with_reducible refine (strings_ContainsRune.calls (rdOf ByteArray.empty l0 x11_1) 10 false _ A11.out).mono ?_);rintro e w' ⟨rfl, ⟨nd, rfl⟩⟩;refine ⟨_, rfl, ?_⟩))
                  go_roundg k1
                  case measure => have := HK1.out;omega
                  case rel => exact ⟨(wrap64 (x11_1 + 1)), (x104000_1), (x104001_1), (by first|rfl|(simp only [i64_w, i32_w];done)|(simp only [i64_w, i32_w];rfl)|(simp;done)|(simp [*];done)), H', ⟨by have := HK1.out;omega⟩, ⟨kK⟩, ⟨eB⟩⟩
            · rw [if_neg c8] at H;exact absurd H (by simp)
          · rw [if_neg c7] at H;exact absurd H (by simp)
        · rw [if_neg c6] at H;have c6b0 : decide (x11_1 < (l0.length : Int)) = false := decide_eq_false c6;clear c6;simp only [Option.some.injEq, Prod.mk.injEq] at H;obtain ⟨rfl, rfl⟩ := H;have hcz14_0 : wr.cell? ⟨gb103, 0, none⟩ = some (.int .i64 x104000_1) := (blk_cell BK103.out 0).trans rfl;have hcz14_1 : wr.cell? ⟨gb103, 1, none⟩ = some (.int .i64 x104001_1) := (blk_cell BK103.out 1).trans rfl;have hfz14_0 := blk_frozen BK103.out 0;have hfz14_1 := blk_frozen BK103.out 1
          go_wp2
          refine bodyPost_ret (results_cell_row rfl _ _ gb103 24 #[.int .i64 0, .int .i64 0] (0, 0) _ rfl kK Try.underlying24 rfl (by kernel_rfl)) rfl ?_;exact ⟨rW, eB⟩

/-! ### lines_Validate: function 69 -/
theorem lines_Validate_0.loop (l : List ByteArray) (hl : l.length ≤ 120) (d : Nat) : ∀ (k i : Nat), i ≤ l.length → l.length - i = d → d < k → lines_Validate_0.l0 k l (l.length : Int) (i : Int) = some (faultAt (l.drop i) (i : Int)) := by
  induction d with
  | zero =>
    intro k i hi hd hk
    obtain ⟨k, rfl⟩ : ∃ m, k = m + 1 := ⟨k - 1, by omega⟩
    simp only [lines_Validate_0.l0]
    rw [if_neg (by omega), List.drop_eq_nil_of_le (by omega)]
    rfl
  | succ d ih =>
    intro k i hi hd hk
    obtain ⟨k, rfl⟩ : ∃ m, k = m + 1 := ⟨k - 1, by omega⟩
    rw [rdOf_drop ByteArray.empty l i (by omega)]
    generalize hs : rdOf ByteArray.empty l (i : Int) = s
    simp only [lines_Validate_0.l0, hs]
    rw [if_pos (by omega), if_pos (by omega), if_pos (by omega)]
    simp only [faultAt]
    by_cases h1 : 80 < s.size
    · rw [if_pos (by omega), if_pos h1]
    · rw [if_neg (by omega), if_neg h1]
      simp only [strings_ContainsRune.f, if_true, Option.bind_some]
      by_cases h2 : hasNl s = true
      · rw [if_pos h2, if_pos h2]
      · rw [if_neg h2, if_neg h2, w64 (by omega) (by omega)]
        have := ih k (i + 1) (by omega) (by omega) (by omega)
        rw [Int.natCast_add] at this
        exact this
def lines_Validate.f (l0 : List ByteArray) : Option (Int × Int) :=  some (linesFault l0)
theorem lines_Validate.calls (A0 : Option Addr) (c0 : Nat) (l0 : List ByteArray) (r1 : Int) (r2 : Int) (w : World) (hr0 : Kd.C Kd.string w A0 l0.length l0) (hc0 : l0.length ≤ c0) (h : lines_Validate.f l0 = some (r1, r2)) :
    Calls Try.prog 69 #[.slice A0 l0.length c0] w fun e w' => e = .returned (.agg #[.int .i64 r1, .int .i64 r2]) ∧ Below w.heap.size w w' := by
  have h' : lines_Validate_0.f 121 l0 = some (r1, r2) := by
    rw [← h]
    unfold lines_Validate_0.f lines_Validate.f linesFault
    by_cases c : 120 < l0.length
    · rw [if_pos (by omega), if_pos c]
    · rw [if_neg (by omega), if_neg c]
      exact lines_Validate_0.loop l0 (by omega) l0.length 121 0 (by omega) (by omega) (by omega)
  exact (lines_Validate_0.calls (121) A0 c0 l0 r1 r2 w hr0 hc0 (h'))


/-! ### lines_Code_0: function 54 -/
def lines_Code_0.f (l0 : List ByteArray) : Option (Int) := (lines_Validate.f l0).bind fun bt106 => (some bt106.1)
set_option maxHeartbeats 8000000 in
set_option maxRecDepth 100000 in
theorem lines_Code_0.calls (A0 : Option Addr) (c0 : Nat) (l0 : List ByteArray) (r : Int) (w : World) (hr0 : Kd.C Kd.string w A0 l0.length l0) (hc0 : l0.length ≤ c0) (h : lines_Code_0.f l0 = some r) :
    Calls Try.prog 54 #[.slice A0 l0.length c0] w fun e w' => e = .returned (.int .i64 r) ∧ Below w.heap.size w w' := by
  have hu24 := Try.underlying24
  have HR0 := Aside0.mk hr0
  have HC0 := Aside0.mk hc0
  clear hr0 hc0
  have HB := Aside0.mk (Below.refl w.heap.size w)
  have H : ((lines_Validate.f l0).bind fun bt106 => (some bt106.1)) = some r := h
  clear h
  replace H := Option.bind_eq_some_iff.mp H
  obtain ⟨⟨t106, t107⟩, A20, H⟩ := H
  replace H : (some t106) = some r := H
  have A2 := Aside0.mk A20
  clear A20
  obtain rfl := Option.some.inj H
  have hfd24_0_ := fun (a0_ a1_ : Int) (w_ : World) => (show (Instr.field 24 (.agg #[.int .i64 a0_, .int .i64 a1_]) 0).run Try.prog w_ = .ok (.int .i64 a0_) w_ by kernel_rfl)
  go_enter Try.func54, Try.ntmps54
  go_wp2_with (first | ((with_reducible refine gate_callee (f := 69) rfl ?_); refine goesL_ (some 4) rfl rfl Try.func69 (by kernel_rfl) rfl #[.slice A0 l0.length c0] rfl (by (try simp only [List.map_toArray, List.map_cons, List.map_nil]); first | done | rfl | (simp only [List.length_drop, List.length_take]; rfl)) ?_; (with_reducible refine (lines_Validate.calls _ _ l0 t106 t107 _ ?side1 ?side2 A2.out).mono ?_); (case side1 => repeat (first | exact HR0.out | (with_reducible refine Kd.C_alloc ?_ _) | (with_reducible refine Kd.C_drewN ?_ _) | (with_reducible refine Kd.C_drew ?_))); (case side2 => exact HC0.out); rintro e w3 ⟨rfl, hb⟩; refine ⟨_, rfl, ?_⟩; have n0_ := Aside0.mk (below_step (by repeat (first | (with_reducible first | exact HB.out | apply below_alloc | apply pw_below_drewN | apply below_drew1) | exact HB.out)) hb); clear HB; have HB := n0_; clear n0_; (try clear hb); (try clear hb2); (try clear hk); (try clear hi)))
  go_ret
  exact ⟨by first | rfl | (simp [errW_none, errW_some] <;> rfl) | (simp [*, errW_none, errW_some] <;> rfl), by repeat (first | (with_reducible first | exact HB.out | apply below_alloc | apply pw_below_drewN | apply below_drew1) | exact HB.out)⟩

/-! ### lines_Code: function 54 -/
def lines_Code.f (l0 : List ByteArray) : Option (Int) :=  some (linesFault l0).1
theorem lines_Code.calls (A0 : Option Addr) (c0 : Nat) (l0 : List ByteArray) (r : Int) (w : World) (hr0 : Kd.C Kd.string w A0 l0.length l0) (hc0 : l0.length ≤ c0) (h : lines_Code.f l0 = some r) :
    Calls Try.prog 54 #[.slice A0 l0.length c0] w fun e w' => e = .returned (.int .i64 r) ∧ Below w.heap.size w w' := by
  have h' : lines_Code_0.f l0 = some r := h
  exact (lines_Code_0.calls A0 c0 l0 r w hr0 hc0 (h'))


/-! ### worddiff_split: function 64 -/
def worddiff_split.f (a0 : ByteArray) : Option (List ByteArray) :=  if a0.size ≤ 8796093022206 then some (words a0) else none
set_option maxHeartbeats 2000000 in
set_option maxRecDepth 100000 in
theorem worddiff_class_w (c : Int) (w : World) : Calls Try.prog 76 #[.int .u8 c] w fun e w' => e = .returned (.int .i64 (cls c)) ∧ w' = w := by
  go_enter Try.func76, Try.ntmps76
  go_wp2
  all_goals (refine bodyPost_ret (results_tmp rfl _ _ _) rfl ?_)
  all_goals (refine ⟨?_, rfl⟩)
  all_goals (simp only [beq_eq_false_iff_ne, beq_iff_eq, ne_eq] at *)
  all_goals (first | exact congrArg (fun z => Ending.returned (Value.int .i64 z)) (cls_0 (by omega)).symm | exact congrArg (fun z => Ending.returned (Value.int .i64 z)) (cls_1 (by omega) (by omega)).symm | exact congrArg (fun z => Ending.returned (Value.int .i64 z)) (cls_2 (by omega) (by omega)).symm)
section
attribute [local irreducible] wpStill
set_option maxHeartbeats 40000000 in
set_option maxRecDepth 100000 in
theorem worddiff_split.calls (a0 : ByteArray) (r : List ByteArray) (w : World) (h : worddiff_split.f a0 = some r) :
    Calls Try.prog 64 #[.string a0] w fun e w' => ∃ v0_ : Value, e = .returned (v0_) ∧ Kd.R Kd.string 9 w' w.heap.size (fun _ => True) v0_ r ∧ Below w.heap.size w w' := by
  replace h : (if a0.size ≤ 8796093022206 then some (words a0) else none) = some r := h
  obtain ⟨hsz, hr⟩ : a0.size ≤ 8796093022206 ∧ words a0 = r := by
    split at h
    · rename_i hs; exact ⟨hs, Option.some.inj h⟩
    · cases h
  clear h
  have HS := Aside0.mk hsz
  go_enter Try.func64, Try.ntmps64
  go_wp2_with fail
  go_loopw [3, 4, 5] (fun v3 v4 v5 wr => ∃ (pre : List ByteArray) (st i : Nat), v4 = .int .i64 st ∧ v5 = .int .i64 i ∧ Aside0 (i ≤ a0.size + 1 ∧ st ≤ i ∧ pre.length ≤ i ∧ 0 < i) ∧ Aside0 ((i = a0.size + 1 ∧ pre = r) ∨ (i ≤ a0.size ∧ st < i ∧ pre ++ wordsAt a0 st i = r)) ∧ Aside0 (Kd.R Kd.string 9 wr w.heap.size (fun _ => True) v3 pre) ∧ Aside0 (Below w.heap.size w wr)) (fun v3 v4 v5 wr => a0.size + 1 - (intOf v5).toNat)
  case atStart =>
    refine ⟨[], 0, 1, rfl, rfl, ⟨by omega, by omega, by simp, by omega⟩, ⟨?_⟩, ⟨Kd.R_nil _ _ _ _ _⟩, ⟨Below.refl _ _⟩⟩
    by_cases h0 : 0 < a0.size
    · exact .inr ⟨h0, by omega, by rw [← words_start a0 h0, hr]; rfl⟩
    · exact .inl ⟨by omega, by rw [← hr, words_nil a0 (by omega)]⟩
  case round =>
    obtain ⟨pre, st, i, rfl, rfl, HI, HC, HR, HB⟩ := hrel
    by_cases hi : i ≤ a0.size
    · obtain ⟨hi1, hi2, hi3, hi0⟩ := HI.out
      obtain ⟨hst, hw⟩ : st < i ∧ pre ++ wordsAt a0 st i = r := by rcases HC.out with h | h; omega; exact h.2
      by_cases he : i = a0.size
      · subst he
        have b1 : ((a0.size : Int) == (a0.size : Int)) = true := beq_self_eq_true _
        go_wp2_with fail
        go_region
        have HRd := Aside0.mk (Kd.R_drew HR.out)
        have HBd := Aside0.mk HB.out.drew
        generalize wr.drew = wd at *
        go_wp2_with ((with_reducible refine gate_builtin (b := .append) (xs := #[.tmp 35, .tmp 40]) rfl ?_); at_builtin; refine Kd.R_append Kd.string (w0 := w) w.heap.size rfl (.tmp 35) (.tmp 40) 22 9 (.string ⟨#[]⟩) 16 rfl Try.underlying22 info9 rfl (by decide) (by omega) _ pre (a0.extract st a0.size) [.string (a0.extract st a0.size)] (fun _ => True) (fun _ => False) rfl rfl ?aP (fun _ hk => hk.elim) ?aF ?aO ?aB ?aS ?aL ?_; (case aP => exact rfl); (case aB => exact HBd.out); (case aF => exact (fun _ _ => trivial)); (case aO => exact HRd.out); (case aS => exact HBd.out.size); (case aL => have := HS.out; have := HI.out; omega); intro v1 w1 ho hb hg hat; have HO1 := Aside0.mk ho; have HB1 := Aside0.mk hb; clear ho hb hg hat)
        go_roundw
        case rel => exact ⟨pre ++ [a0.extract st a0.size], a0.size, a0.size + 1, rfl, by go_num, ⟨by have := HI.out; simp; omega⟩, ⟨.inl ⟨rfl, by rw [← hw, wordsAt_end a0 st (by omega)]⟩⟩, HO1, HB1⟩
        case measure => simp [intOf]
      · have b1 : ((i : Int) == (a0.size : Int)) = false := by simp; omega
        obtain ⟨j, hj⟩ : ∃ j, j + 1 = i := ⟨i - 1, by omega⟩
        have hlt : i < a0.size := by omega
        have hlj : j < a0.size := by omega
        have hx1 : ((a0[i]'hlt).toNat : Int) = bt a0 i := by simp [bt, hlt]
        have hx2 : ((a0[j]'hlj).toNat : Int) = bt a0 j := by simp [bt, hlj]
        have e1 : wrap64 ((i : Int) - 1) = (j : Int) := by rw [w64 (by omega) (by omega)]; omega
        have e1' : IntKind.i64.wrap ((i : Int) - 1) = (j : Int) := (i64_w _).trans e1
        have hstep := wordsAt_step a0 st i hst hlt
        rw [show i - 1 = j by omega] at hstep
        generalize bt a0 (i : Int) = x at *
        generalize bt a0 (j : Int) = y at *
        have HSTEP := Aside0.mk hstep
        have HW := Aside0.mk hw
        have HJ := Aside0.mk hj
        clear hstep hw hj he HC
        by_cases c1 : cls x = 2
        · have b2 : (cls x == 2) = true := by simp [c1]
          have C1 := Aside0.mk c1
          clear c1
          go_wp2_with fail
          refine still_drew (by kernel_rfl) (by kernel_rfl) ?_
          iterate 8 (refine still_yes (by kernel_rfl) (fun K hK => ?_); go_simp; refine hK _ ?_; clear hK K)
          (refine still_yes (by kernel_rfl) (fun K hK => ?_); go_simp; refine ⟨_, worddiff_class_w _ _, hK _ ?_⟩; clear hK K)
          iterate 3 (refine still_yes (by kernel_rfl) (fun K hK => ?_); go_simp; refine hK _ ?_; clear hK K)
          iterate 10 (refine still_no (by kernel_rfl) ?_; simp only [Act.put, List.setIfInBounds_toArray, List.set_cons_zero, List.set_cons_succ])
          (refine still_yes (by kernel_rfl) (fun K hK => ?_); go_simp; refine hK _ ?_; clear hK K)
          refine wpStill_nil ?_
          have HRd := Aside0.mk (Kd.R_drew HR.out)
          have HBd := Aside0.mk HB.out.drew
          generalize wr.drew = wd at *
          go_wp2_with ((with_reducible refine gate_builtin (b := .append) (xs := #[.tmp 35, .tmp 40]) rfl ?_); at_builtin; refine Kd.R_append Kd.string (w0 := w) w.heap.size rfl (.tmp 35) (.tmp 40) 22 9 (.string ⟨#[]⟩) 16 rfl Try.underlying22 info9 rfl (by decide) (by omega) _ pre (a0.extract st i) [.string (a0.extract st i)] (fun _ => True) (fun _ => False) rfl rfl ?aP (fun _ hk => hk.elim) ?aF ?aO ?aB ?aS ?aL ?_; (case aP => exact rfl); (case aB => exact HBd.out); (case aF => exact (fun _ _ => trivial)); (case aO => exact HRd.out); (case aS => exact HBd.out.size); (case aL => have := HS.out; have := HI.out; omega); intro v1 w1 ho hb hg hat; have HO1 := Aside0.mk ho; have HB1 := Aside0.mk hb; clear ho hb hg hat)
          go_roundw
          case rel => exact ⟨pre ++ [a0.extract st i], i, i + 1, rfl, by go_num, ⟨by have := HI.out; simp; omega⟩, ⟨.inr ⟨by omega, by omega, by rw [← HW.out, HSTEP.out, if_pos (.inl C1.out)]; simp⟩⟩, HO1, HB1⟩
          case measure => simp [intOf]; omega
        · have b2 : (cls x == 2) = false := by simp [c1]
          by_cases c2 : cls x = cls y
          · have b3 : (cls x != cls y) = false := by simp [c2]
            have C2 := Aside0.mk c2
            clear c2
            go_wp2_with fail
            refine still_drew (by kernel_rfl) (by kernel_rfl) ?_
            iterate 8 (refine still_yes (by kernel_rfl) (fun K hK => ?_); go_simp; refine hK _ ?_; clear hK K)
            (refine still_yes (by kernel_rfl) (fun K hK => ?_); go_simp; refine ⟨_, worddiff_class_w _ _, hK _ ?_⟩; clear hK K)
            iterate 6 (refine still_yes (by kernel_rfl) (fun K hK => ?_); go_simp; refine hK _ ?_; clear hK K)
            (refine still_yes (by kernel_rfl) (fun K hK => ?_); go_simp; refine ⟨_, worddiff_class_w _ _, hK _ ?_⟩; clear hK K)
            iterate 4 (refine still_yes (by kernel_rfl) (fun K hK => ?_); go_simp; refine hK _ ?_; clear hK K)
            (refine still_yes (by kernel_rfl) (fun K hK => ?_); go_simp; refine ⟨_, worddiff_class_w _ _, hK _ ?_⟩; clear hK K)
            iterate 2 (refine still_yes (by kernel_rfl) (fun K hK => ?_); go_simp; refine hK _ ?_; clear hK K)
            refine wpStill_nil ?_
            go_wp2
            go_roundw
            case rel => exact ⟨pre, st, i + 1, rfl, by go_num, ⟨by have := HI.out; omega⟩, ⟨.inr ⟨by omega, by omega, by rw [← HW.out, HSTEP.out, if_neg (by intro h; rcases h with h | h; exact c1 h; exact h C2.out)]⟩⟩, ⟨Kd.R_drew HR.out⟩, ⟨HB.out.drew⟩⟩
            case measure => simp [intOf]; omega
          · have b3 : (cls x != cls y) = true := by simp [c2]
            go_wp2_with fail
            refine still_drew (by kernel_rfl) (by kernel_rfl) ?_
            iterate 8 (refine still_yes (by kernel_rfl) (fun K hK => ?_); go_simp; refine hK _ ?_; clear hK K)
            (refine still_yes (by kernel_rfl) (fun K hK => ?_); go_simp; refine ⟨_, worddiff_class_w _ _, hK _ ?_⟩; clear hK K)
            iterate 6 (refine still_yes (by kernel_rfl) (fun K hK => ?_); go_simp; refine hK _ ?_; clear hK K)
            (refine still_yes (by kernel_rfl) (fun K hK => ?_); go_simp; refine ⟨_, worddiff_class_w _ _, hK _ ?_⟩; clear hK K)
            iterate 4 (refine still_yes (by kernel_rfl) (fun K hK => ?_); go_simp; refine hK _ ?_; clear hK K)
            (refine still_yes (by kernel_rfl) (fun K hK => ?_); go_simp; refine ⟨_, worddiff_class_w _ _, hK _ ?_⟩; clear hK K)
            iterate 2 (refine still_yes (by kernel_rfl) (fun K hK => ?_); go_simp; refine hK _ ?_; clear hK K)
            refine wpStill_nil ?_
            have HRd := Aside0.mk (Kd.R_drew HR.out)
            have HBd := Aside0.mk HB.out.drew
            generalize wr.drew = wd at *
            go_wp2_with ((with_reducible refine gate_builtin (b := .append) (xs := #[.tmp 35, .tmp 40]) rfl ?_); at_builtin; refine Kd.R_append Kd.string (w0 := w) w.heap.size rfl (.tmp 35) (.tmp 40) 22 9 (.string ⟨#[]⟩) 16 rfl Try.underlying22 info9 rfl (by decide) (by omega) _ pre (a0.extract st i) [.string (a0.extract st i)] (fun _ => True) (fun _ => False) rfl rfl ?aP (fun _ hk => hk.elim) ?aF ?aO ?aB ?aS ?aL ?_; (case aP => exact rfl); (case aB => exact HBd.out); (case aF => exact (fun _ _ => trivial)); (case aO => exact HRd.out); (case aS => exact HBd.out.size); (case aL => have := HS.out; have := HI.out; omega); intro v1 w1 ho hb hg hat; have HO1 := Aside0.mk ho; have HB1 := Aside0.mk hb; clear ho hb hg hat)
            go_roundw
            case rel => exact ⟨pre ++ [a0.extract st i], i, i + 1, rfl, by go_num, ⟨by have := HI.out; simp; omega⟩, ⟨.inr ⟨by omega, by omega, by rw [← HW.out, HSTEP.out, if_pos (.inr c2)]; simp⟩⟩, HO1, HB1⟩
            case measure => simp [intOf]; omega
    · have hi' : i = a0.size + 1 := by have := HI.out; omega
      subst hi'
      have hpre : pre = r := by rcases HC.out with h | h; exact h.2; omega
      subst hpre
      go_wp2
      refine bodyPost_ret (results_tmp rfl _ _ _) rfl ?_
      exact ⟨_, rfl, HR.out, HB.out⟩
end


/-! ### worddiff_Tokens: function 31 -/
def worddiff_Tokens.f (a0 : ByteArray) : Option (List ByteArray × Int × Int) := (lines_Code.f (([a0] : List ByteArray))).bind fun t112 => (if t112 = 0 then ((worddiff_split.f a0).bind fun t113 => (some (t113, 0, 0))) else (some (([] : List ByteArray), t112, 0)))
set_option maxHeartbeats 8000000 in
set_option maxRecDepth 100000 in
theorem worddiff_Tokens.calls (a0 : ByteArray) (r1 : List ByteArray) (r2 : Int) (r3 : Int) (w : World) (h : worddiff_Tokens.f a0 = some (r1, r2, r3)) :
    Calls Try.prog 31 #[.string a0] w fun e w' => ∃ v0_ : Value, e = .returned (.tuple #[v0_, .agg #[.int .i64 r2, .int .i64 r3]]) ∧ Kd.R Kd.string 9 w' w.heap.size (fun _ => True) v0_ r1 ∧ Below w.heap.size w w' := by
  have hu24 := Try.underlying24;have HB := Aside0.mk (Below.refl w.heap.size w);have H : ((lines_Code.f (([a0] : List ByteArray))).bind fun t112 => (if t112 = 0 then ((worddiff_split.f a0).bind fun t113 => (some (t113, 0, 0))) else (some (([] : List ByteArray), t112, 0)))) = some (r1, r2, r3) := h;clear h;obtain ⟨y109, hy109⟩ : ∃ y_ : List ByteArray, y_ = (([a0] : List ByteArray)) := ⟨_, rfl⟩;replace H : ((lines_Code.f y109).bind fun t112 => (if t112 = 0 then ((worddiff_split.f a0).bind fun t113 => (some (t113, 0, 0))) else (some (([] : List ByteArray), t112, 0)))) = some (r1, r2, r3) := (by first|(rw [hy109];with_reducible exact H)|(have H2_ := (Option.bind_some _ _).symm.trans H;rw [hy109];with_reducible exact H2_)|(have H2_ := (Option.bind_some _ _).symm.trans H;with_reducible exact H2_)|with_reducible exact H|(rw [hy109];exact H)|exact H);have Ny109 := Aside0.mk hy109;clear hy109;replace H := Option.bind_eq_some_iff.mp H;obtain ⟨t112, A20, H⟩ := H;replace H : (if t112 = 0 then ((worddiff_split.f a0).bind fun t113 => (some (t113, 0, 0))) else (some (([] : List ByteArray), t112, 0))) = some (r1, r2, r3) := H;have A2 := Aside0.mk A20;clear A20
  by_cases c3 : t112 = 0
  · rw [if_pos c3] at H;have c3b0 : (t112 == 0) = true := beq_iff_eq.mpr c3;have c3b1 : (t112 != 0) = false := bne_eq_false_iff_eq.mpr c3;clear c3;replace H := Option.bind_eq_some_iff.mp H;obtain ⟨t113, A40, H⟩ := H;replace H : (some (t113, 0, 0)) = some (r1, r2, r3) := H;have A4 := Aside0.mk A40;clear A40;simp only [Option.some.injEq, Prod.mk.injEq] at H;obtain ⟨rfl, rfl, rfl⟩ := H
    go_enter Try.func31, Try.ntmps31
    go_wp2_with (first|((with_reducible refine gate_dst (N := 3) rfl ?_);refine bE 3 #[.int .i64 0, .int .i64 0] 24 ?_;intro gb108 hg w5 hbox hb;have BK108 := Aside0.mk (hbox);have GW108 := gBe HB hg;have GE108 := gBe HB hg;replace HB := sBe HB hb;clear hb hbox hg)|((with_reducible refine gate_dst (N := 6) rfl ?_);refine Kd.R_lit Kd.string _ 9 ?hg (N := 6) ?hd (xs := ([a0] : List ByteArray)) (inner := [.string a0]) (ok := fun _ => True) (okp := fun _ => True) ?hr ?hp (fun _ hk => hk) trivial (Below.refl _ _) (Nat.le_refl _) (by simp) ?_;(case hd => rfl);(case hg => rfl);(case hr => first|(go_simp;done)|(go_simp;rfl));(case hp => exact (Reps.one (show Kd.M Kd.string _ _ _ a0 [.string a0] from rfl) (Reps.none _ _)));intro v110 w6 ho7 hb hg_ hnew_;clear hg_ hnew_;(first|rw [← Ny109.out] at ho7|(simp only [Int.reduceToNat] at ho7;rw [← Ny109.out] at ho7));have HO111 := Aside0.mk (Kd.R_lower ho7 (below_size eB));replace BK108 := lJ BK108 hb;replace HB := sBe HB hb;clear hb ho7;obtain ⟨Ao8, co8, eo8⟩ := Kd.R_slice HO111.out;subst eo8)|((with_reducible refine gate_callee (f := 54) rfl ?_);refine goesL_ (some 7) rfl rfl Try.func54 (by kernel_rfl) rfl #[.slice Ao8 y109.length co8] rfl mA ?_;(with_reducible refine (lines_Code.calls _ _ y109 t112 _ ?side1 ?side2 A2.out).mono ?_);(case side1 => repeat (first|exact (Kd.R_reads' HO111.out).2.2|(with_reducible refine Kd.C_alloc ?_ _)|(with_reducible refine Kd.C_drewN ?_ _)|(with_reducible refine Kd.C_drew ?_)));(case side2 => exact (Kd.R_reads' HO111.out).2.1);rintro e w9 ⟨rfl, hb⟩;refine ⟨_, rfl, ?_⟩;replace HO111 := rL HO111 hb;replace BK108 := lJ BK108 hb;replace HB := sBe HB hb;(try clear hb))|((with_reducible refine gate_callee (f := 64) rfl ?_);refine goesL_ (some 13) rfl rfl Try.func64 (by kernel_rfl) rfl #[.string a0] rfl mA ?_;(with_reducible refine (worddiff_split.calls a0 t113 _ A4.out).mono ?_);rintro e w10 ⟨v114, rfl, ho0, hb⟩;refine ⟨_, rfl, ?_⟩;have HO115 := Aside0.mk (Kd.R_lower (Kd.R_new' ho0 (Kd.R_lt (rK HO111))) (below_size eB));replace HO111 := Aside0.mk (Kd.R_elder' (rK HO111) (Kd.R_base ho0) hb);replace BK108 := lJ BK108 hb;replace HB := sBe HB hb;(try clear hb ho0);have hcz11_0 := hC BK108 0 (.int .i64 0);have hcz11_1 := hC BK108 1 (.int .i64 0);have hfz11_0 := blk_frozen BK108.out 0;have hfz11_1 := blk_frozen BK108.out 1))
    refine bodyPost_ret (results_tc rfl _ _ gb108 24 #[.int .i64 0, .int .i64 0] (0, 0) _ rfl kK Try.underlying24 rfl (by kernel_rfl)) rfl ?_;exact ⟨_, rW, by (with_reducible repeat first|apply rA|apply rN|apply rD);exact Kd.R_mono (Kd.R_far (p := ⟨gb108, 1, none⟩) (Kd.R_far (p := ⟨gb108, 0, none⟩) (Kd.R_types HO115.out BK108.out (by decide)) (fun _ hk => hk.2) (.int .i64 0)) (fun _ hk => hk.2) (.int .i64 0)) (fun _ hk => trivial), eB⟩
  · rw [if_neg c3] at H;have c3b0 : (t112 == 0) = false := beq_eq_false_iff_ne.mpr c3;have c3b1 : (t112 != 0) = true := bne_iff_ne.mpr c3;simp only [Option.some.injEq, Prod.mk.injEq] at H;obtain ⟨rfl, rfl, rfl⟩ := H
    go_enter Try.func31, Try.ntmps31
    go_wp2_with (first|((with_reducible refine gate_dst (N := 3) rfl ?_);refine bE 3 #[.int .i64 0, .int .i64 0] 24 ?_;intro gb108 hg w12 hbox hb;have BK108 := Aside0.mk (hbox);have GW108 := gBe HB hg;have GE108 := gBe HB hg;replace HB := sBe HB hb;clear hb hbox hg)|((with_reducible refine gate_dst (N := 6) rfl ?_);refine Kd.R_lit Kd.string _ 9 ?hg (N := 6) ?hd (xs := ([a0] : List ByteArray)) (inner := [.string a0]) (ok := fun _ => True) (okp := fun _ => True) ?hr ?hp (fun _ hk => hk) trivial (Below.refl _ _) (Nat.le_refl _) (by simp) ?_;(case hd => rfl);(case hg => rfl);(case hr => first|(go_simp;done)|(go_simp;rfl));(case hp => exact (Reps.one (show Kd.M Kd.string _ _ _ a0 [.string a0] from rfl) (Reps.none _ _)));intro v110 w13 ho14 hb hg_ hnew_;clear hg_ hnew_;(first|rw [← Ny109.out] at ho14|(simp only [Int.reduceToNat] at ho14;rw [← Ny109.out] at ho14));have HO111 := Aside0.mk (Kd.R_lower ho14 (below_size eB));replace BK108 := lJ BK108 hb;replace HB := sBe HB hb;clear hb ho14;obtain ⟨Ao15, co15, eo15⟩ := Kd.R_slice HO111.out;subst eo15)|((with_reducible refine gate_callee (f := 54) rfl ?_);refine goesL_ (some 7) rfl rfl Try.func54 (by kernel_rfl) rfl #[.slice Ao15 y109.length co15] rfl mA ?_;(with_reducible refine (lines_Code.calls _ _ y109 t112 _ ?side1 ?side2 A2.out).mono ?_);(case side1 => repeat (first|exact (Kd.R_reads' HO111.out).2.2|(with_reducible refine Kd.C_alloc ?_ _)|(with_reducible refine Kd.C_drewN ?_ _)|(with_reducible refine Kd.C_drew ?_)));(case side2 => exact (Kd.R_reads' HO111.out).2.1);rintro e w16 ⟨rfl, hb⟩;refine ⟨_, rfl, ?_⟩;replace HO111 := rL HO111 hb;replace BK108 := lJ BK108 hb;replace HB := sBe HB hb;(try clear hb);have hcz17_0 := hC BK108 0 (.int .i64 0);have hcz17_1 := hC BK108 1 (.int .i64 0);have hfz17_0 := blk_frozen BK108.out 0;have hfz17_1 := blk_frozen BK108.out 1))
    refine bodyPost_ret (results_tc rfl _ _ gb108 24 #[.int .i64 t112, .int .i64 0] (0, 0) _ rfl kK Try.underlying24 rfl (by kernel_rfl)) rfl ?_;exact ⟨_, rW, by first|exact Kd.R_nil _ _ _ _ _|exact Kd.N_nil _ _ _ _ _|exact Kd.V_nil _ _ _ _ _|exact Kd.Q_nil _ _ _ _ _|exact Kd.S_nil _ _ _ _ _, eB⟩

/-! ### changeforgelaw1_split: function 32 -/
def changeforgelaw1_split.f  : Option (Bool) := (worddiff_Tokens.f (⟨#[97, 49, 32, 43, 32, 98]⟩ : ByteArray)).bind fun bt116 => (if bt116.2.1 = 0 then ((changeforgeequal_Strings.f bt116.1 (([(⟨#[97, 49]⟩ : ByteArray), (⟨#[32]⟩ : ByteArray), (⟨#[43]⟩ : ByteArray), (⟨#[32]⟩ : ByteArray), (⟨#[98]⟩ : ByteArray)] : List ByteArray))).bind fun t125 => (some t125)) else (some false))
set_option maxHeartbeats 8000000 in
set_option maxRecDepth 100000 in
theorem changeforgelaw1_split.calls  (r : Bool) (w : World) (h : changeforgelaw1_split.f  = some r) :
    Calls Try.prog 32 #[] w fun e w' => e = .returned (.bool r) ∧ Below w.heap.size w w' := by
  have hu24 := Try.underlying24;have HB := Aside0.mk (Below.refl w.heap.size w);have H : ((worddiff_Tokens.f (⟨#[97, 49, 32, 43, 32, 98]⟩ : ByteArray)).bind fun bt116 => (if bt116.2.1 = 0 then ((changeforgeequal_Strings.f bt116.1 (([(⟨#[97, 49]⟩ : ByteArray), (⟨#[32]⟩ : ByteArray), (⟨#[43]⟩ : ByteArray), (⟨#[32]⟩ : ByteArray), (⟨#[98]⟩ : ByteArray)] : List ByteArray))).bind fun t125 => (some t125)) else (some false))) = some r := h;clear h;replace H := Option.bind_eq_some_iff.mp H;obtain ⟨⟨t116, t119, t120⟩, A10, H⟩ := H;replace H : (if t119 = 0 then ((changeforgeequal_Strings.f t116 (([(⟨#[97, 49]⟩ : ByteArray), (⟨#[32]⟩ : ByteArray), (⟨#[43]⟩ : ByteArray), (⟨#[32]⟩ : ByteArray), (⟨#[98]⟩ : ByteArray)] : List ByteArray))).bind fun t125 => (some t125)) else (some false)) = some r := H;have A1 := Aside0.mk A10;clear A10
  by_cases c2 : t119 = 0
  · rw [if_pos c2] at H;have c2b0 : (t119 == 0) = true := beq_iff_eq.mpr c2;have c2b1 : (t119 != 0) = false := bne_eq_false_iff_eq.mpr c2;clear c2;obtain ⟨y122, hy122⟩ : ∃ y_ : List ByteArray, y_ = (([(⟨#[97, 49]⟩ : ByteArray), (⟨#[32]⟩ : ByteArray), (⟨#[43]⟩ : ByteArray), (⟨#[32]⟩ : ByteArray), (⟨#[98]⟩ : ByteArray)] : List ByteArray)) := ⟨_, rfl⟩;replace H : ((changeforgeequal_Strings.f t116 y122).bind fun t125 => (some t125)) = some r := (by first|(rw [hy122];with_reducible exact H)|(have H2_ := (Option.bind_some _ _).symm.trans H;rw [hy122];with_reducible exact H2_)|(have H2_ := (Option.bind_some _ _).symm.trans H;with_reducible exact H2_)|with_reducible exact H|(rw [hy122];exact H)|exact H);have Ny122 := Aside0.mk hy122;clear hy122;replace H := Option.bind_eq_some_iff.mp H;obtain ⟨t125, A30, H⟩ := H;replace H : (some t125) = some r := H;have A3 := Aside0.mk A30;clear A30;obtain rfl := Option.some.inj H
    go_enter Try.func32, Try.ntmps32
    go_wp2_with (first|((with_reducible refine gate_callee (f := 31) rfl ?_);refine goesL_ (some 4) rfl rfl Try.func31 (by kernel_rfl) rfl #[.string (⟨#[97, 49, 32, 43, 32, 98]⟩ : ByteArray)] rfl mA ?_;(with_reducible refine (worddiff_Tokens.calls (⟨#[97, 49, 32, 43, 32, 98]⟩ : ByteArray) t116 t119 t120 _ A1.out).mono ?_);rintro e w4 ⟨v117, rfl, ho0, hb⟩;refine ⟨_, rfl, ?_⟩;have HO118 := Aside0.mk (Kd.R_lower ho0 (below_size eB));replace HB := sBe HB hb;(try clear hb ho0))|((with_reducible refine gate_dst (N := 2) rfl ?_);(try (refine gate_guard (by rfl) ?_;dsimp only));refine bE 2 #[.int .i64 0, .int .i64 0] 24 ?_;intro gb121 hg w5 hbox hb;have BK121 := Aside0.mk (hbox);have GW121 := gBe HB hg;have GE121 := gBe HB hg;replace HO118 := rL HO118 hb;replace HB := sBe HB hb;clear hb hbox hg;have hcz6_0 := hC BK121 0 (.int .i64 0);have hcz6_1 := hC BK121 1 (.int .i64 0);have hfz6_0 := blk_frozen BK121.out 0;have hfz6_1 := blk_frozen BK121.out 1)|((with_reducible refine gate_dst (N := 12) rfl ?_);(try (refine gate_guard (by rfl) ?_;dsimp only));refine Kd.R_lit Kd.string _ 9 ?hg (N := 12) ?hd (xs := ([(⟨#[97, 49]⟩ : ByteArray), (⟨#[32]⟩ : ByteArray), (⟨#[43]⟩ : ByteArray), (⟨#[32]⟩ : ByteArray), (⟨#[98]⟩ : ByteArray)] : List ByteArray)) (inner := [.string (⟨#[97, 49]⟩ : ByteArray), .string (⟨#[32]⟩ : ByteArray), .string (⟨#[43]⟩ : ByteArray), .string (⟨#[32]⟩ : ByteArray), .string (⟨#[98]⟩ : ByteArray)]) (ok := fun _ => True) (okp := fun _ => True) ?hr ?hp (fun _ hk => hk) trivial (Below.refl _ _) (Nat.le_refl _) (by simp) ?_;(case hd => rfl);(case hg => rfl);(case hr => first|(go_simp;done)|(go_simp;rfl));(case hp => exact (Reps.one (show Kd.M Kd.string _ _ _ (⟨#[97, 49]⟩ : ByteArray) [.string (⟨#[97, 49]⟩ : ByteArray)] from rfl) (Reps.one (show Kd.M Kd.string _ _ _ (⟨#[32]⟩ : ByteArray) [.string (⟨#[32]⟩ : ByteArray)] from rfl) (Reps.one (show Kd.M Kd.string _ _ _ (⟨#[43]⟩ : ByteArray) [.string (⟨#[43]⟩ : ByteArray)] from rfl) (Reps.one (show Kd.M Kd.string _ _ _ (⟨#[32]⟩ : ByteArray) [.string (⟨#[32]⟩ : ByteArray)] from rfl) (Reps.one (show Kd.M Kd.string _ _ _ (⟨#[98]⟩ : ByteArray) [.string (⟨#[98]⟩ : ByteArray)] from rfl) (Reps.none _ _)))))));intro v123 w7 ho8 hb hg_ hnew_;clear hg_ hnew_;(first|rw [← Ny122.out] at ho8|(simp only [Int.reduceToNat] at ho8;rw [← Ny122.out] at ho8));have HO124 := Aside0.mk (Kd.R_lower (Kd.R_new' ho8 (Kd.R_lt (by (with_reducible repeat first|apply rA|apply rN|apply rD);exact (Kd.R_mono (Kd.R_far (p := ⟨gb121, 1, none⟩) (Kd.R_far (p := ⟨gb121, 0, none⟩) (Kd.R_types HO118.out BK121.out (by decide)) (fun _ hk => hk.2) (.int .i64 t119)) (fun _ hk => hk.2) (.int .i64 t120)) (fun _ h_ => h_.1))))) (below_size eB));replace HO118 := Aside0.mk (Kd.R_elder' (by (with_reducible repeat first|apply rA|apply rN|apply rD);exact (Kd.R_mono (Kd.R_far (p := ⟨gb121, 1, none⟩) (Kd.R_far (p := ⟨gb121, 0, none⟩) (Kd.R_types HO118.out BK121.out (by decide)) (fun _ hk => hk.2) (.int .i64 t119)) (fun _ hk => hk.2) (.int .i64 t120)) (fun _ h_ => h_.1))) (Kd.R_base ho8) hb);replace BK121 := lK gb121 24 #[.int .i64 t119, .int .i64 t120] hb;replace HB := sBe HB hb;clear hb ho8;obtain ⟨Ao9, co9, eo9⟩ := Kd.R_slice HO118.out;subst eo9;obtain ⟨Ao10, co10, eo10⟩ := Kd.R_slice HO124.out;subst eo10)|(go_at_call 17;(with_reducible refine (changeforgeequal_Strings.calls _ _ t116 _ _ y122 t125 _ ?side1 ?side2 ?side3 ?side4 A3.out).mono ?_);(case side1 => repeat (first|exact (Kd.R_reads' HO118.out).2.2|(with_reducible refine Kd.C_alloc ?_ _)|(with_reducible refine Kd.C_drewN ?_ _)|(with_reducible refine Kd.C_drew ?_)));(case side2 => exact (Kd.R_reads' HO118.out).2.1);(case side3 => repeat (first|exact (Kd.R_reads' HO124.out).2.2|(with_reducible refine Kd.C_alloc ?_ _)|(with_reducible refine Kd.C_drewN ?_ _)|(with_reducible refine Kd.C_drew ?_)));(case side4 => exact (Kd.R_reads' HO124.out).2.1);rintro e w' ⟨rfl, ⟨nd, rfl⟩⟩))
    go_ret
    exact ⟨rW, eB⟩
  · rw [if_neg c2] at H;have c2b0 : (t119 == 0) = false := beq_eq_false_iff_ne.mpr c2;have c2b1 : (t119 != 0) = true := bne_iff_ne.mpr c2;obtain rfl := Option.some.inj H
    go_enter Try.func32, Try.ntmps32
    go_wp2_with (first|((with_reducible refine gate_callee (f := 31) rfl ?_);refine goesL_ (some 4) rfl rfl Try.func31 (by kernel_rfl) rfl #[.string (⟨#[97, 49, 32, 43, 32, 98]⟩ : ByteArray)] rfl mA ?_;(with_reducible refine (worddiff_Tokens.calls (⟨#[97, 49, 32, 43, 32, 98]⟩ : ByteArray) t116 t119 t120 _ A1.out).mono ?_);rintro e w11 ⟨v117, rfl, ho0, hb⟩;refine ⟨_, rfl, ?_⟩;have HO118 := Aside0.mk (Kd.R_lower ho0 (below_size eB));replace HB := sBe HB hb;(try clear hb ho0))|((with_reducible refine gate_dst (N := 2) rfl ?_);(try (refine gate_guard (by rfl) ?_;dsimp only));refine bE 2 #[.int .i64 0, .int .i64 0] 24 ?_;intro gb121 hg w12 hbox hb;have BK121 := Aside0.mk (hbox);have GW121 := gBe HB hg;have GE121 := gBe HB hg;replace HO118 := rL HO118 hb;replace HB := sBe HB hb;clear hb hbox hg;have hcz13_0 := hC BK121 0 (.int .i64 0);have hcz13_1 := hC BK121 1 (.int .i64 0);have hfz13_0 := blk_frozen BK121.out 0;have hfz13_1 := blk_frozen BK121.out 1))
    go_ret
    exact ⟨rW, eB⟩

/-! ### worddiff_common: function 65 -/
def worddiff_common.f (l0 : List ByteArray) (l1 : List ByteArray) : Option ((List (List Int))) :=  if l0.length ≤ 1000 ∧ l1.length ≤ 1000 then some (lcsTab l0 l1) else none
theorem worddiff_common_info2 : (Try.prog.info? 3).map (fun i => (i.zero, i.size, i.bytes)) = some (some (.int .i64 0), 1, 8) := by kernel_rfl
theorem worddiff_common_info : (Try.prog.info? 63).map (fun i => (i.zero, i.size, i.bytes)) = some (some (.slice none 0 0), 1, 24) := by kernel_rfl
section
attribute [local irreducible] wpStill
set_option maxHeartbeats 40000000 in
set_option maxRecDepth 100000 in
theorem worddiff_common.calls (A0 : Option Addr) (c0 : Nat) (l0 : List ByteArray) (A1 : Option Addr) (c1 : Nat) (l1 : List ByteArray) (r : List (List Int)) (w : World) (hr0 : Kd.C Kd.string w A0 l0.length l0) (hc0 : l0.length ≤ c0) (hr1 : Kd.C Kd.string w A1 l1.length l1) (hc1 : l1.length ≤ c1) (h : worddiff_common.f l0 l1 = some r) :
    Calls Try.prog 65 #[.slice A0 l0.length c0, .slice A1 l1.length c1] w fun e w' => ∃ v0_ : Value, e = .returned (v0_) ∧ Kd.S (Kd.slice 3 (Kd.int .i64)) 63 w' w.heap.size (fun _ => True) v0_ r ∧ Below w.heap.size w w' := by
  replace h : (if l0.length ≤ 1000 ∧ l1.length ≤ 1000 then some (lcsTab l0 l1) else none) = some r := h
  obtain ⟨⟨hm, hn⟩, hr⟩ : (l0.length ≤ 1000 ∧ l1.length ≤ 1000) ∧ lcsTab l0 l1 = r := by
    split at h
    · rename_i hs; exact ⟨hs, Option.some.inj h⟩
    · cases h
  clear h
  have HR0 := Aside0.mk hr0
  have HR1 := Aside0.mk hr1
  have HR := Aside0.mk hr
  clear hr0 hr1 hr
  go_enter Try.func65, Try.ntmps65
  go_wp2_with ((with_reducible refine gate_dst (N := 11) rfl ?_); refine Kd.S_make (Kd.slice 3 (Kd.int .i64)) _ 63 rfl (N := 11) rfl 64 _ _ rfl ((l0.length : Int) + 1) rfl rfl Try.underlying64 (.slice none 0 0) 24 worddiff_common_info rfl (by decide) (by omega) [] (ok := fun _ => True) (okp := fun _ => True) ⟨_, rfl, Kd.R_nil _ _ _ _ _⟩ (fun _ hk => hk) trivial (by omega) (by omega) (Below.refl _ _) (Nat.le_refl _) ?_; intro v w1 ho hb hg_ hnew_; clear hg_ hnew_; obtain ⟨g, cap, rfl, hgb, hS⟩ := tab_made l0.length l1.length ho; rw [← tabI_start l0.length l1.length (lcsFrom l0 l1 (l0.length + 1) 0)] at hS; have HS := Aside0.mk hS; have HB := Aside0.mk hb; clear ho hb hS)
  go_loopw [6] (fun v6 wr => ∃ (iN : Nat) (x6 : Int), v6 = .int .i64 x6 ∧ Aside0 (x6 = (iN : Int) - 1 ∧ iN ≤ l0.length + 1) ∧ Aside0 (Kd.S (Kd.slice 3 (Kd.int .i64)) 63 wr w.heap.size (fun _ => True) (.slice (some ⟨g, 0, none⟩) (l0.length + 1) cap) (tabI l0.length l1.length iN (lcsFrom l0 l1 iN 0))) ∧ Aside0 (Below w.heap.size w wr)) (fun v6 wr => (intOf v6 + 1).toNat)
  case atStart => exact ⟨l0.length + 1, _, rfl, ⟨by omega, Nat.le_refl _⟩, HS, HB⟩
  case round =>
    clear HS HB
    obtain ⟨iN, x6, rfl, HI, HS, HB⟩ := hrel
    obtain ⟨hi1, hi2⟩ := HI.out
    cases iN with
    | zero =>
      have hneg : x6 < 0 := by omega
      clear hi1 HI
      rw [lcsFrom_fullI, HR.out] at HS
      go_wp2
      refine bodyPost_ret (results_tmp rfl _ _ _) rfl ?_
      exact ⟨_, rfl, HS.out, HB.out⟩
    | succ i =>
      obtain rfl : x6 = (i : Int) := by omega
      clear hi1 HI
      go_wp2_with ((with_reducible refine gate_dst (N := 23) rfl ?_); refine Kd.R_make (Kd.int .i64) _ 3 rfl (N := 23) rfl 63 _ _ rfl ((l1.length : Int) + 1) rfl rfl Try.underlying63 (.int .i64 0) 8 worddiff_common_info2 rfl (by decide) (by omega) 0 (ok := fun _ => True) (okp := fun _ => True) rfl (fun _ hk => hk) trivial (by omega) (by omega) (Below.refl _ _) (Nat.le_refl _) ?_; intro v w2 ho hb hg_ hnew_; clear hg_ hnew_; obtain ⟨g2, cap2, A, c, rfl, hcell, hfr, hs2, hb2⟩ := tab_newrow HS.out HB.out hgb hb ho i (by omega); have HS2 := Aside0.mk hs2; have HB2 := Aside0.mk hb2; clear hs2 hb2 hb ho)
      rw [lcsFrom_new] at HS2
      clear HS HB
      go_loopw [7] (fun v7 wr => ∃ (jN : Nat) (x7 : Int), v7 = .int .i64 x7 ∧ Aside0 (x7 = (jN : Int) - 1 ∧ jN ≤ l1.length) ∧ Aside0 (Kd.S (Kd.slice 3 (Kd.int .i64)) 63 wr w.heap.size (fun _ => True) (.slice (some ⟨g, 0, none⟩) (l0.length + 1) cap) (tabI l0.length l1.length i (lcsFrom l0 l1 i jN))) ∧ Aside0 (Below w.heap.size w wr)) (fun v7 wr => (intOf v7 + 1).toNat)
      case atStart => exact ⟨l1.length, _, rfl, ⟨rfl, Nat.le_refl _⟩, HS2, HB2⟩
      case round =>
        clear HS2 HB2
        obtain ⟨jN, x7, rfl, HJ, HS, HB⟩ := hrel
        obtain ⟨hj1, hj2⟩ := HJ.out
        cases jN with
        | zero =>
          have hneg : x7 < 0 := by omega
          clear hj1 HJ
          go_wp2
          go_roundw
          case rel => exact ⟨i, _, rfl, ⟨by first | rfl | omega, by omega⟩, HS, HB⟩
          case measure => simp [intOf]
        | succ j =>
          by_cases hil : i < l0.length
          · obtain rfl : x7 = (j : Int) := by omega
            clear hj1 HJ
            have hjl : j < l1.length := by omega
            have b0 : (i : Int) < (l0.length : Int) + 1 := by omega
            have b2 : (j : Int) < (l1.length : Int) + 1 := by omega
            obtain ⟨ad0, e0, hx0⟩ := Kd.at_string HR0.out (i : Int) (by omega) (by omega)
            obtain ⟨ad1, e1, hx1⟩ := Kd.at_string HR1.out (j : Int) (by omega) (by omega)
            cases e0
            cases e1
            rw [Int.toNat_natCast] at hx0 hx1
            replace hx0 := (HB.out.cell (World.block_lt_of_cell? w _ hx0)).trans hx0
            replace hx1 := (HB.out.cell (World.block_lt_of_cell? w _ hx1)).trans hx1
            have hst := lcsAt_step l0 l1 i j (by omega) (by omega)
            generalize rdOf ByteArray.empty l0 (i : Int) = s at *
            generalize rdOf ByteArray.empty l1 (j : Int) = t at *
            have HST := Aside0.mk hst
            clear hst
            by_cases c : s.toList = t.toList
            · have b1 : (s.toList == t.toList) = true := by simp [c]
              have C := Aside0.mk c
              clear c
              go_wp2_with fail
              refine still_drew (by kernel_rfl) (by kernel_rfl) ?_
              iterate 9 (refine still_yes (by kernel_rfl) (fun K hK => ?_); go_simp; refine hK _ ?_; clear hK K)
              refine wpStill_nil ?_
              go_wp2_with fail
              have hsd := Kd.S_drew HS.out
              have HBd := Aside0.mk HB.out.drew
              clear hx0 hx1
              generalize wr.drew = wd at *
              clear HS HB
              obtain ⟨gi, ci, hci, hli, hbi, hri, hseti⟩ := tabI_get hsd i (Nat.le_refl _) (by omega)
              obtain ⟨gk, ck, hck, hlk, hbk, hrk, _⟩ := tabI_get hsd (i + 1) (by omega) (by omega)
              have v1 := (hrk (j + 1) (by omega)).1
              obtain ⟨v0, f0⟩ := hri j (by omega)
              rw [lcsFrom_at l0 l1 (by omega)] at v1
              have hrg := lcsAt_range l0 l1 (i + 1) (j + 1)
              have hs := hseti j (lcsAt l0 l1 (i + 1) (j + 1) + 1)
              have e := HST.out
              rw [if_pos C.out] at e
              rw [← e, lcsFrom_set, e] at hs
              have HS' := Aside0.mk hs
              clear hs e hsd hri hrk hseti
              generalize lcsAt l0 l1 (i + 1) (j + 1) = x at *
              have ei0 : (0 : Int) ≤ (i : Int) + 1 := by omega
              have ei1 : (i : Int) + 1 < (l0.length : Int) + 1 := by omega
              have ei2 : ((i : Int) + 1).toNat = i + 1 := by omega
              have ej0 : (0 : Int) ≤ (j : Int) + 1 := by omega
              have ej1 : (j : Int) + 1 < (l1.length : Int) + 1 := by omega
              have ej2 : ((j : Int) + 1).toNat = j + 1 := by omega
              have ei3 : IntKind.i64.wrap ((i : Int) + 1) = (i : Int) + 1 := (i64_w _).trans (w64 (by omega) (by omega))
              have ej3 : IntKind.i64.wrap ((j : Int) + 1) = (j : Int) + 1 := (i64_w _).trans (w64 (by omega) (by omega))
              have ex3 : IntKind.i64.wrap (x + 1) = x + 1 := (i64_w _).trans (w64 (by omega) (by omega))
              refine still_tail_drew 15 (by kernel_rfl) (by kernel_rfl) ?_
              simp only [List.take_succ_cons, List.take_zero, List.drop_succ_cons, List.drop_zero]
              iterate 15 (refine still_yes (by kernel_rfl) (fun K hK => ?_); go_simp; refine hK _ ?_; clear hK K)
              refine wpStill_nil ?_
              go_wp2
              go_roundw
              case rel => exact ⟨j, _, rfl, ⟨by first | rfl | omega, by omega⟩, ⟨Kd.S_drew HS'.out⟩, ⟨(HBd.out.setCell (p := ⟨gi, j, none⟩) hbi _).drew⟩⟩
              case measure => simp [intOf]
            · have b1 : (s.toList == t.toList) = false := by simp [c]
              have C := Aside0.mk c
              clear c
              go_wp2_with fail
              refine still_drew (by kernel_rfl) (by kernel_rfl) ?_
              iterate 9 (refine still_yes (by kernel_rfl) (fun K hK => ?_); go_simp; refine hK _ ?_; clear hK K)
              refine wpStill_nil ?_
              go_wp2_with fail
              have hsd := Kd.S_drew HS.out
              have HBd := Aside0.mk HB.out.drew
              clear hx0 hx1
              generalize wr.drew = wd at *
              clear HS HB
              obtain ⟨gi, ci, hci, hli, hbi, hri, hseti⟩ := tabI_get hsd i (Nat.le_refl _) (by omega)
              obtain ⟨gk, ck, hck, hlk, hbk, hrk, _⟩ := tabI_get hsd (i + 1) (by omega) (by omega)
              have v1 := (hrk j (by omega)).1
              have v2 := (hri (j + 1) (by omega)).1
              obtain ⟨v0, f0⟩ := hri j (by omega)
              rw [lcsFrom_at l0 l1 (by omega)] at v1 v2
              have hs := hseti j (mx (lcsAt l0 l1 (i + 1) j) (lcsAt l0 l1 i (j + 1)))
              have e := HST.out
              rw [if_neg C.out] at e
              rw [← e, lcsFrom_set, e] at hs
              have HS' := Aside0.mk hs
              clear hs e hsd hri hrk hseti
              generalize lcsAt l0 l1 (i + 1) j = x at *
              generalize lcsAt l0 l1 i (j + 1) = y at *
              have ei0 : (0 : Int) ≤ (i : Int) + 1 := by omega
              have ei1 : (i : Int) + 1 < (l0.length : Int) + 1 := by omega
              have ei2 : ((i : Int) + 1).toNat = i + 1 := by omega
              have ej0 : (0 : Int) ≤ (j : Int) + 1 := by omega
              have ej1 : (j : Int) + 1 < (l1.length : Int) + 1 := by omega
              have ej2 : ((j : Int) + 1).toNat = j + 1 := by omega
              have ei3 : IntKind.i64.wrap ((i : Int) + 1) = (i : Int) + 1 := (i64_w _).trans (w64 (by omega) (by omega))
              have ej3 : IntKind.i64.wrap ((j : Int) + 1) = (j : Int) + 1 := (i64_w _).trans (w64 (by omega) (by omega))
              refine still_tail_drew 22 (by kernel_rfl) (by kernel_rfl) ?_
              simp only [List.take_succ_cons, List.take_zero, List.drop_succ_cons, List.drop_zero]
              iterate 22 (refine still_yes (by kernel_rfl) (fun K hK => ?_); go_simp; refine hK _ ?_; clear hK K)
              refine wpStill_nil ?_
              go_wp2
              go_roundw
              case rel => exact ⟨j, _, rfl, ⟨by first | rfl | omega, by omega⟩, ⟨Kd.S_drew HS'.out⟩, ⟨(HBd.out.setCell (p := ⟨gi, j, none⟩) hbi _).drew⟩⟩
              case measure => simp [intOf]
          · obtain rfl : i = l0.length := by omega
            clear hil
            rw [lcsFrom_last] at HS
            obtain rfl : x7 = (j : Int) := by omega
            clear hj1 HJ
            go_wp2
            go_roundw
            case rel => exact ⟨l0.length, _, rfl, ⟨by first | rfl | omega, by omega⟩, HS, HB⟩
            case measure => simp [intOf]
end


end Go.Proofs.Ytifkadmljokffaa.PX
