/- Printed by a program of this session out of the translation: Lean functions for Go functions, and proofs that the Go functions answer the same. -/
import Derived.Test.YtifkadmljokffaaPB0
import Derived.Test.YtifkadmljokffaaPB1
namespace Go.Proofs.Ytifkadmljokffaa.PB
open Go.RowKit Go.Proofs.Ytifkadmljokffaa.Pre Go.Proofs.YtifkadmljokffaaW.PrintWords Go.Proofs.YtifkadmljokffaaW.PrintLast Go.Proofs.YtifkadmljokffaaW.PrintMore
attribute [local go_sem] max2_int min2_int max_two min_two max_three min_three max_four min_four   -- for this text's walks alone
set_option linter.unusedVariables false
set_option linter.unusedSimpArgs false

attribute [local go_sem high] eqA24
/-! ### strings_ContainsRune: function 77 -/
theorem indexByte_ge (c : UInt8) : ∀ l : List UInt8, decide (0 ≤ Lib.indexByte l c) = l.contains c ∧ -1 ≤ Lib.indexByte l c
  | [] => ⟨by simp [Lib.indexByte], by simp [Lib.indexByte]⟩
  | b :: l => by
    obtain ⟨ih1, ih2⟩ := indexByte_ge c l
    unfold Lib.indexByte
    by_cases h : b = c
    · subst h; simp
    · have hb : (b == c) = false := by simpa using h
      have hc : (c == b) = false := by simpa using fun e => h e.symm
      by_cases h2 : Lib.indexByte l c = -1
      · rw [h2] at ih1
        simp [h, h2] at ih1 ⊢
        exact ⟨fun e => h e.symm, ih1⟩
      · have h3 : (Lib.indexByte l c == -1) = false := by simpa using h2
        simp only [hb, h3, Bool.false_eq_true, if_false, List.contains_cons, hc, Bool.false_or]
        rw [← ih1]
        exact ⟨by rw [Bool.eq_iff_iff]; simp; omega, by omega⟩
def strings_ContainsRune.f (a0 : ByteArray) (a1 : Int) : Option (Bool) :=  if a1 = 10 then some (hasNl a0) else none
theorem strings_ContainsRune.calls (a0 : ByteArray) (a1 : Int) (r : Bool) (w : World) (h : strings_ContainsRune.f a0 a1 = some r) :
    Calls Try.prog 77 #[.string a0, .int .i32 a1] w fun e w' => e = .returned (.bool r) ∧ Drawn0 w w' := by
  unfold strings_ContainsRune.f at h
  split at h
  · rename_i e
    subst e
    obtain rfl := Option.some.inj h
    refine (Go.Proofs.Try.strings_ContainsRune_ascii a0 10 w (by omega) (by omega)).mono ?_
    rintro e w' ⟨rfl, rfl⟩
    refine ⟨?_, Drawn0.refl _⟩
    have e10 : (10 : Int).toNat.toUInt8 = 10 := by decide
    rw [e10, (indexByte_ge 10 a0.data.toList).1]
    rfl
  · cases h


/-! ### lines_Validate_0: function 69 -/
def lines_Validate_0.l0 : Nat → List ByteArray → Int → Int → Option (Int × Int)
  | 0, _, _, _ => none
  | k + 1, x9, x10, x11 => if x11 < x10 then (if 0 ≤ x11 then (if x11 < (x9.length : Int) then (if ((rdOf ByteArray.empty x9 x11).size : Int) > 80 then (some (2, x11)) else ((strings_ContainsRune.f (rdOf ByteArray.empty x9 x11) 10).bind fun t103 => (if t103 = true then (some (5, x11)) else (lines_Validate_0.l0 k x9 x10 (wrap64 (x11 + 1)))))) else (none)) else (none)) else (some (0, 0))
def lines_Validate_0.f (k : Nat) (l0 : List ByteArray) : Option (Int × Int) := if (l0.length : Int) > 120 then (some (2, (-1))) else (lines_Validate_0.l0 k l0 (l0.length : Int) 0)
theorem lines_Validate_0.mono_l : ∀ k, (∀ y0 y1 y2, LeO (lines_Validate_0.l0 k y0 y1 y2) (lines_Validate_0.l0 (k + 1) y0 y1 y2))
  | 0 => fun _ _ _ r h => by simp [lines_Validate_0.l0] at h
  | k + 1 => by
    have ih0 := lines_Validate_0.mono_l k
    · intro y0 y1 y2
      unfold lines_Validate_0.l0
      repeat' first
      | (with_reducible exact ih0 _ _ _)
      | (with_reducible exact LeO.refl _)
      | (with_reducible exact LeO.none _)
      | (with_reducible refine LeO.ite ?_ ?_)
      | (with_reducible refine LeO.bind ?_ (fun _ => ?_))
      | exact ih0 _ _ _
      | exact LeO.none _
      | refine LeO.ite ?_ ?_
      | refine LeO.bind ?_ (fun _ => ?_)
theorem lines_Validate_0.mono : ∀ a0 k, LeO (lines_Validate_0.f k a0) (lines_Validate_0.f (k + 1) a0) := by
  intro a0 k
  have ih0 := lines_Validate_0.mono_l k
  unfold lines_Validate_0.f
  repeat' first
      | (with_reducible exact ih0 _ _ _)
      | (with_reducible exact LeO.refl _)
      | (with_reducible exact LeO.none _)
      | (with_reducible refine LeO.ite ?_ ?_)
      | (with_reducible refine LeO.bind ?_ (fun _ => ?_))
      | exact ih0 _ _ _
      | exact LeO.none _
      | refine LeO.ite ?_ ?_
      | refine LeO.bind ?_ (fun _ => ?_)
set_option maxHeartbeats 8000000 in
set_option maxRecDepth 100000 in
theorem lines_Validate_0.calls (k : Nat) (A0 : Option Addr) (c0 : Nat) (l0 : List ByteArray) (r1 : Int) (r2 : Int) (w : World) (hr0 : Kd.C Kd.string w A0 l0.length l0) (hc0 : l0.length ≤ c0) (h : lines_Validate_0.f k l0 = some (r1, r2)) :
    Calls Try.prog 69 #[.slice A0 l0.length c0] w fun e w' => e = .returned (.agg #[.int .i64 r1, .int .i64 r2]) ∧ Below w.heap.size w w' := by
  have hu24 := Try.underlying24;have HR0 := Aside0.mk hr0;have HC0 := Aside0.mk hc0;clear hr0 hc0;have HB := Aside0.mk (Below.refl w.heap.size w);have H : (if (l0.length : Int) > 120 then (some (2, (-1))) else (lines_Validate_0.l0 k l0 (l0.length : Int) 0)) = some (r1, r2) := h;clear h
  by_cases c2 : (l0.length : Int) > 120
  · rw [if_pos c2] at H;have c2b0 : decide (120 < (l0.length : Int)) = true := decide_eq_true c2;have c2b1 : decide (120 < l0.length) = true := decide_eq_true (by omega);clear c2;simp only [Option.some.injEq, Prod.mk.injEq] at H;obtain ⟨rfl, rfl⟩ := H
    go_enter Try.func69, Try.ntmps69
    go_wp2_with (first|((with_reducible refine gate_dst (N := 2) rfl ?_);refine bE 2 #[.int .i64 0, .int .i64 0] 24 ?_;intro gb101 hg w3 hbox hb;have BK101 := Aside0.mk (hbox);have GW101 := gBe HB hg;have GE101 := gBe HB hg;replace HB := sBe HB hb;clear hb hbox hg;have hcz4_0 := hC BK101 0 (.int .i64 0);have hcz4_1 := hC BK101 1 (.int .i64 0);have hfz4_0 := blk_frozen BK101.out 0;have hfz4_1 := blk_frozen BK101.out 1))
    refine bodyPost_ret (results_cell_row rfl _ _ gb101 24 #[.int .i64 2, .int .i64 (-1)] (0, 0) _ rfl kK Try.underlying24 rfl (by kernel_rfl)) rfl ?_;exact ⟨rW, eB⟩
  · rw [if_neg c2] at H;have c2b0 : decide (120 < (l0.length : Int)) = false := decide_eq_false c2;have c2b1 : decide (120 < l0.length) = false := decide_eq_false (by omega);clear c2;have H' := Aside0.mk H;clear H
    go_enter Try.func69, Try.ntmps69
    go_wp2_with (first|((with_reducible refine gate_dst (N := 2) rfl ?_);refine bE 2 #[.int .i64 0, .int .i64 0] 24 ?_;intro gb101 hg w5 hbox hb;have BK101 := Aside0.mk (hbox);have GW101 := gBe HB hg;have GE101 := gBe HB hg;replace HB := sBe HB hb;clear hb hbox hg))
    go_loopg [11] k (fun kq v11 w' => ∃ (x11_1 : Int) (x102000_1 : Int) (x102001_1 : Int), v11 = .int .i64 x11_1 ∧ Aside0 (lines_Validate_0.l0 kq l0 (l0.length : Int) x11_1 = some (r1, r2)) ∧ Aside0 (kq ≤ k) ∧ Bk w' gb101 24 #[.int .i64 x102000_1, .int .i64 x102001_1] ∧ Aside0 (Below w.heap.size w w'))
    case atStart => exact ⟨(0), (0), (0), (by first|rfl|(simp only [i64_w, i32_w];done)|(simp only [i64_w, i32_w];rfl)|(simp;done)|(simp [*];done)), H', ⟨Nat.le_refl _⟩, ⟨kK⟩, ⟨eB⟩⟩
    case round =>
      clear H'
      try clear c2
      try clear c2b0
      try clear c2b1
      try clear p2
      try clear hcz4_0
      try clear hcz4_1
      try clear hfz4_0
      try clear hfz4_1
      obtain ⟨x11_1, x102000_1, x102001_1, rfl, HA, HK1, BK101, HB⟩ := hrel
      cases gk with
      | zero => exact absurd HA.out (by simp [lines_Validate_0.l0])
      | succ k1 =>
        have H := HA.out;clear HA;simp only [lines_Validate_0.l0] at H
        by_cases c6 : x11_1 < (l0.length : Int)
        · rw [if_pos c6] at H;have c6b0 : decide (x11_1 < (l0.length : Int)) = true := decide_eq_true c6;clear c6
          by_cases c7 : 0 ≤ x11_1
          · rw [if_pos c7] at H;have c7b0 : decide (0 ≤ x11_1) = true := decide_eq_true c7;clear c7
            by_cases c8 : x11_1 < (l0.length : Int)
            · rw [if_pos c8] at H;have c8b0 : decide (x11_1 < (l0.length : Int)) = true := decide_eq_true c8;clear c8
              by_cases c9 : ((rdOf ByteArray.empty l0 x11_1).size : Int) > 80
              · rw [if_pos c9] at H;have c9b0 : decide (80 < ((rdOf ByteArray.empty l0 x11_1).size : Int)) = true := decide_eq_true c9;have c9b1 : decide (80 < (rdOf ByteArray.empty l0 x11_1).size) = true := decide_eq_true (by omega);clear c9;simp only [Option.some.injEq, Prod.mk.injEq] at H;obtain ⟨rfl, rfl⟩ := H;have p102 : 0 ≤ (x11_1 : Int) := dA;have q102 : x11_1 < (l0.length : Int) := dA;obtain ⟨ad102, e102, hx102_0⟩ := Kd.at_string HR0.out x11_1 p102 q102
                cases e102
                replace hx102_0 := (hX HB hx102_0:);replace p102 := eq_true p102;replace q102 := eq_true q102;have hcz10_0 : wr.cell? ⟨gb101, 0, none⟩ = some (.int .i64 x102000_1) := (blk_cell BK101.out 0).trans rfl;have hcz10_1 : wr.cell? ⟨gb101, 1, none⟩ = some (.int .i64 x102001_1) := (blk_cell BK101.out 1).trans rfl;have hfz10_0 := blk_frozen BK101.out 0;have hfz10_1 := blk_frozen BK101.out 1
                go_wp2
                refine bodyPost_ret (results_cell_row rfl _ _ gb101 24 #[.int .i64 2, .int .i64 x11_1] (0, 0) _ rfl kK Try.underlying24 rfl (by kernel_rfl)) rfl ?_;exact ⟨rW, eB⟩
              · rw [if_neg c9] at H;have c9b0 : decide (80 < ((rdOf ByteArray.empty l0 x11_1).size : Int)) = false := decide_eq_false c9;have c9b1 : decide (80 < (rdOf ByteArray.empty l0 x11_1).size) = false := decide_eq_false (by omega);clear c9;replace H := Option.bind_eq_some_iff.mp H;obtain ⟨t103, A110, H⟩ := H;replace H : (if t103 = true then (some (5, x11_1)) else (lines_Validate_0.l0 k1 l0 (l0.length : Int) (wrap64 (x11_1 + 1)))) = some (r1, r2) := H;have A11 := Aside0.mk A110;clear A110
                by_cases c12 : t103 = true
                · subst c12;have H1 : (some (5, x11_1)) = some (r1, r2) := (by rw [if_pos rfl] at H;exact H);clear H;have H := H1;clear H1;simp only [Option.some.injEq, Prod.mk.injEq] at H;obtain ⟨rfl, rfl⟩ := H;have p102 : 0 ≤ (x11_1 : Int) := dA;have q102 : x11_1 < (l0.length : Int) := dA;obtain ⟨ad102, e102, hx102_0⟩ := Kd.at_string HR0.out x11_1 p102 q102
                  cases e102
                  replace hx102_0 := (hX HB hx102_0:);replace p102 := eq_true p102;replace q102 := eq_true q102
                  go_wp2_with (first|((with_reducible refine gate_callee (f := 77) rfl ?_);refine goesL_ (some 24) rfl rfl Try.func77 (by kernel_rfl) rfl #[.string (rdOf ByteArray.empty l0 x11_1), .int .i32 10] rfl mA ?_;(with_reducible refine (strings_ContainsRune.calls (rdOf ByteArray.empty l0 x11_1) 10 true _ A11.out).mono ?_);rintro e w' ⟨rfl, ⟨nd, rfl⟩⟩;refine ⟨_, rfl, ?_⟩;(try (rw [drewN_self wr];generalize hq_ : World.drewN wr _ = wr;have n0_ : Aside0 (wr.heap[gb101]? = some (.cells #[.int .i64 x102000_1, .int .i64 x102001_1] 24 (0, 0))) := ⟨by rw [← hq_];exact kK⟩;have n1_ : Aside0 (Below w.heap.size w wr) := ⟨by rw [← hq_];exact eB⟩;clear BK101 HB hq_;have BK101 := n0_;have HB := n1_;clear n0_ n1_));have hcz13_0 : wr.cell? ⟨gb101, 0, none⟩ = some (.int .i64 x102000_1) := (blk_cell BK101.out 0).trans rfl;have hcz13_1 : wr.cell? ⟨gb101, 1, none⟩ = some (.int .i64 x102001_1) := (blk_cell BK101.out 1).trans rfl;have hfz13_0 := blk_frozen BK101.out 0;have hfz13_1 := blk_frozen BK101.out 1))
                  refine bodyPost_ret (results_cell_row rfl _ _ gb101 24 #[.int .i64 5, .int .i64 x11_1] (0, 0) _ rfl kK Try.underlying24 rfl (by kernel_rfl)) rfl ?_;exact ⟨rW, eB⟩
                · replace c12 := Bool.eq_false_iff.mpr c12;subst c12;have H1 : (lines_Validate_0.l0 k1 l0 (l0.length : Int) (wrap64 (x11_1 + 1))) = some (r1, r2) := (by rw [if_neg (show ¬ (false = true) by decide)] at H;exact H);clear H;have H := H1;clear H1;have H' := Aside0.mk H;clear H;have p102 : 0 ≤ (x11_1 : Int) := dA;have q102 : x11_1 < (l0.length : Int) := dA;obtain ⟨ad102, e102, hx102_0⟩ := Kd.at_string HR0.out x11_1 p102 q102
                  cases e102
                  replace hx102_0 := (hX HB hx102_0:);replace p102 := eq_true p102;replace q102 := eq_true q102
                  go_wp2_with (first|((with_reducible refine gate_callee (f := 77) rfl ?_);refine goesL_ (some 24) rfl rfl Try.func77 (by kernel_rfl) rfl #[.string (rdOf ByteArray.empty l0 x11_1), .int .i32 10] rfl mA ?_;(with_reducible refine (strings_ContainsRune.calls (rdOf ByteArray.empty l0 x11_1) 10 false _ A11.out).mono ?_);rintro e w' ⟨rfl, ⟨nd, rfl⟩⟩;refine ⟨_, rfl, ?_⟩))
                  go_roundg k1
                  case measure => have := HK1.out;omega
                  case rel => exact ⟨(wrap64 (x11_1 + 1)), (x102000_1), (x102001_1), (by first|rfl|(simp only [i64_w, i32_w];done)|(simp only [i64_w, i32_w];rfl)|(simp;done)|(simp [*];done)), H', ⟨by have := HK1.out;omega⟩, ⟨kK⟩, ⟨eB⟩⟩
            · rw [if_neg c8] at H;exact absurd H (by simp)
          · rw [if_neg c7] at H;exact absurd H (by simp)
        · rw [if_neg c6] at H;have c6b0 : decide (x11_1 < (l0.length : Int)) = false := decide_eq_false c6;clear c6;simp only [Option.some.injEq, Prod.mk.injEq] at H;obtain ⟨rfl, rfl⟩ := H;have hcz14_0 : wr.cell? ⟨gb101, 0, none⟩ = some (.int .i64 x102000_1) := (blk_cell BK101.out 0).trans rfl;have hcz14_1 : wr.cell? ⟨gb101, 1, none⟩ = some (.int .i64 x102001_1) := (blk_cell BK101.out 1).trans rfl;have hfz14_0 := blk_frozen BK101.out 0;have hfz14_1 := blk_frozen BK101.out 1
          go_wp2
          refine bodyPost_ret (results_cell_row rfl _ _ gb101 24 #[.int .i64 0, .int .i64 0] (0, 0) _ rfl kK Try.underlying24 rfl (by kernel_rfl)) rfl ?_;exact ⟨rW, eB⟩

/-! ### lines_Validate: function 69 -/
theorem lines_Validate_0.loop (l : List ByteArray) (hl : l.length ≤ 120) (d : Nat) : ∀ (k i : Nat), i ≤ l.length → l.length - i = d → d < k → lines_Validate_0.l0 k l (l.length : Int) (i : Int) = some (faultAt (l.drop i) (i : Int)) := by
  induction d with
  | zero =>
    intro k i hi hd hk
    obtain ⟨k, rfl⟩ : ∃ m, k = m + 1 := ⟨k - 1, by omega⟩
    simp only [lines_Validate_0.l0]
    rw [if_neg (by omega), List.drop_eq_nil_of_le (by omega)]
    rfl
  | succ d ih =>
    intro k i hi hd hk
    obtain ⟨k, rfl⟩ : ∃ m, k = m + 1 := ⟨k - 1, by omega⟩
    rw [rdOf_drop ByteArray.empty l i (by omega)]
    generalize hs : rdOf ByteArray.empty l (i : Int) = s
    simp only [lines_Validate_0.l0, hs]
    rw [if_pos (by omega), if_pos (by omega), if_pos (by omega)]
    simp only [faultAt]
    by_cases h1 : 80 < s.size
    · rw [if_pos (by omega), if_pos h1]
    · rw [if_neg (by omega), if_neg h1]
      simp only [strings_ContainsRune.f, if_true, Option.bind_some]
      by_cases h2 : hasNl s = true
      · rw [if_pos h2, if_pos h2]
      · rw [if_neg h2, if_neg h2, w64 (by omega) (by omega)]
        have := ih k (i + 1) (by omega) (by omega) (by omega)
        rw [Int.natCast_add] at this
        exact this
def lines_Validate.f (l0 : List ByteArray) : Option (Int × Int) :=  some (linesFault l0)
theorem lines_Validate.calls (A0 : Option Addr) (c0 : Nat) (l0 : List ByteArray) (r1 : Int) (r2 : Int) (w : World) (hr0 : Kd.C Kd.string w A0 l0.length l0) (hc0 : l0.length ≤ c0) (h : lines_Validate.f l0 = some (r1, r2)) :
    Calls Try.prog 69 #[.slice A0 l0.length c0] w fun e w' => e = .returned (.agg #[.int .i64 r1, .int .i64 r2]) ∧ Below w.heap.size w w' := by
  have h' : lines_Validate_0.f 121 l0 = some (r1, r2) := by
    rw [← h]
    unfold lines_Validate_0.f lines_Validate.f linesFault
    by_cases c : 120 < l0.length
    · rw [if_pos (by omega), if_pos c]
    · rw [if_neg (by omega), if_neg c]
      exact lines_Validate_0.loop l0 (by omega) l0.length 121 0 (by omega) (by omega) (by omega)
  exact (lines_Validate_0.calls (121) A0 c0 l0 r1 r2 w hr0 hc0 (h'))


/-! ### lines_Code_0: function 54 -/
def lines_Code_0.f (l0 : List ByteArray) : Option (Int) := (lines_Validate.f l0).bind fun bt104 => (some bt104.1)
set_option maxHeartbeats 8000000 in
set_option maxRecDepth 100000 in
theorem lines_Code_0.calls (A0 : Option Addr) (c0 : Nat) (l0 : List ByteArray) (r : Int) (w : World) (hr0 : Kd.C Kd.string w A0 l0.length l0) (hc0 : l0.length ≤ c0) (h : lines_Code_0.f l0 = some r) :
    Calls Try.prog 54 #[.slice A0 l0.length c0] w fun e w' => e = .returned (.int .i64 r) ∧ Below w.heap.size w w' := by
  have hu24 := Try.underlying24
  have HR0 := Aside0.mk hr0
  have HC0 := Aside0.mk hc0
  clear hr0 hc0
  have HB := Aside0.mk (Below.refl w.heap.size w)
  have H : ((lines_Validate.f l0).bind fun bt104 => (some bt104.1)) = some r := h
  clear h
  replace H := Option.bind_eq_some_iff.mp H
  obtain ⟨⟨t104, t105⟩, A20, H⟩ := H
  replace H : (some t104) = some r := H
  have A2 := Aside0.mk A20
  clear A20
  obtain rfl := Option.some.inj H
  have hfd24_0_ := fun (a0_ a1_ : Int) (w_ : World) => (show (Instr.field 24 (.agg #[.int .i64 a0_, .int .i64 a1_]) 0).run Try.prog w_ = .ok (.int .i64 a0_) w_ by kernel_rfl)
  go_enter Try.func54, Try.ntmps54
  go_wp2_with (first | ((with_reducible refine gate_callee (f := 69) rfl ?_); refine goesL_ (some 4) rfl rfl Try.func69 (by kernel_rfl) rfl #[.slice A0 l0.length c0] rfl (by (try simp only [List.map_toArray, List.map_cons, List.map_nil]); first | done | rfl | (simp only [List.length_drop, List.length_take]; rfl)) ?_; (with_reducible refine (lines_Validate.calls _ _ l0 t104 t105 _ ?side1 ?side2 A2.out).mono ?_); (case side1 => repeat (first | exact HR0.out | (with_reducible refine Kd.C_alloc ?_ _) | (with_reducible refine Kd.C_drewN ?_ _) | (with_reducible refine Kd.C_drew ?_))); (case side2 => exact HC0.out); rintro e w3 ⟨rfl, hb⟩; refine ⟨_, rfl, ?_⟩; have n0_ := Aside0.mk (below_step (by repeat (first | (with_reducible first | exact HB.out | apply below_alloc | apply pw_below_drewN | apply below_drew1) | exact HB.out)) hb); clear HB; have HB := n0_; clear n0_; (try clear hb); (try clear hb2); (try clear hk); (try clear hi)))
  go_ret
  exact ⟨by first | rfl | (simp [errW_none, errW_some] <;> rfl) | (simp [*, errW_none, errW_some] <;> rfl), by repeat (first | (with_reducible first | exact HB.out | apply below_alloc | apply pw_below_drewN | apply below_drew1) | exact HB.out)⟩

/-! ### lines_Code: function 54 -/
def lines_Code.f (l0 : List ByteArray) : Option (Int) :=  some (linesFault l0).1
theorem lines_Code.calls (A0 : Option Addr) (c0 : Nat) (l0 : List ByteArray) (r : Int) (w : World) (hr0 : Kd.C Kd.string w A0 l0.length l0) (hc0 : l0.length ≤ c0) (h : lines_Code.f l0 = some r) :
    Calls Try.prog 54 #[.slice A0 l0.length c0] w fun e w' => e = .returned (.int .i64 r) ∧ Below w.heap.size w w' := by
  have h' : lines_Code_0.f l0 = some r := h
  exact (lines_Code_0.calls A0 c0 l0 r w hr0 hc0 (h'))


/-! ### lines_Two_0: function 41 -/
def lines_Two_0.f (l0 : List ByteArray) (l1 : List ByteArray) : Option (Int × Int) := (lines_Validate.f l0).bind fun bt107 => (if (!(bt107.1 == 0) || (!(bt107.2 == 0))) = true then (some (bt107.1, bt107.2)) else ((lines_Code.f l1).bind fun t110 => (if t110 = 0 then (some (0, 0)) else (some (t110, (-2))))))
set_option maxHeartbeats 8000000 in
set_option maxRecDepth 100000 in
theorem lines_Two_0.calls (A0 : Option Addr) (c0 : Nat) (l0 : List ByteArray) (A1 : Option Addr) (c1 : Nat) (l1 : List ByteArray) (r1 : Int) (r2 : Int) (w : World) (hr0 : Kd.C Kd.string w A0 l0.length l0) (hc0 : l0.length ≤ c0) (hr1 : Kd.C Kd.string w A1 l1.length l1) (hc1 : l1.length ≤ c1) (h : lines_Two_0.f l0 l1 = some (r1, r2)) :
    Calls Try.prog 41 #[.slice A0 l0.length c0, .slice A1 l1.length c1] w fun e w' => e = .returned (.agg #[.int .i64 r1, .int .i64 r2]) ∧ Below w.heap.size w w' := by
  have hu24 := Try.underlying24;have HR0 := Aside0.mk hr0;have HC0 := Aside0.mk hc0;clear hr0 hc0;have HR1 := Aside0.mk hr1;have HC1 := Aside0.mk hc1;clear hr1 hc1;have HB := Aside0.mk (Below.refl w.heap.size w);have H : ((lines_Validate.f l0).bind fun bt107 => (if (!(bt107.1 == 0) || (!(bt107.2 == 0))) = true then (some (bt107.1, bt107.2)) else ((lines_Code.f l1).bind fun t110 => (if t110 = 0 then (some (0, 0)) else (some (t110, (-2))))))) = some (r1, r2) := h;clear h;replace H := Option.bind_eq_some_iff.mp H;obtain ⟨⟨t107, t108⟩, A30, H⟩ := H;replace H : (if (!(t107 == 0) || (!(t108 == 0))) = true then (some (t107, t108)) else ((lines_Code.f l1).bind fun t110 => (if t110 = 0 then (some (0, 0)) else (some (t110, (-2)))))) = some (r1, r2) := H;have A3 := Aside0.mk A30;clear A30
  by_cases c4 : (!(t107 == 0) || (!(t108 == 0))) = true
  · rw [if_pos c4] at H;have c4b0 : (!(t107 == 0) || (!(t108 == 0))) = true := c4;clear c4;simp only [Option.some.injEq, Prod.mk.injEq] at H;obtain ⟨rfl, rfl⟩ := H
    go_enter Try.func41, Try.ntmps41
    go_wp2_with (first|((with_reducible refine gate_dst (N := 4) rfl ?_);refine bE 4 #[.int .i64 0, .int .i64 0] 24 ?_;intro gb106 hg w5 hbox hb;have BK106 := Aside0.mk (hbox);have GW106 := gBe HB hg;have GE106 := gBe HB hg;replace HB := sBe HB hb;clear hb hbox hg)|((with_reducible refine gate_callee (f := 69) rfl ?_);refine goesL_ (some 8) rfl rfl Try.func69 (by kernel_rfl) rfl #[.slice A0 l0.length c0] rfl mA ?_;(with_reducible refine (lines_Validate.calls _ _ l0 t107 t108 _ ?side1 ?side2 A3.out).mono ?_);(case side1 => exact cBe HR0);(case side2 => exact HC0.out);rintro e w6 ⟨rfl, hb⟩;refine ⟨_, rfl, ?_⟩;replace BK106 := lJ BK106 hb;replace HB := sBe HB hb;(try clear hb))|((with_reducible refine gate_dst (N := 5) rfl ?_);refine bE 5 #[.int .i64 0, .int .i64 0] 24 ?_;intro gb109 hg w7 hbox hb;have BK109 := Aside0.mk (hbox);have GW109 := gBe HB hg;have GE109 := gBe HB hg;have NB106_109 := nL BK106 hg;have NB109_106 := nG BK106 hg;replace BK106 := lJ BK106 hb;replace HB := sBe HB hb;clear hb hbox hg;have hnb8 := eq_false NB109_106.out;have hnc8 := eq_false NB106_109.out;have hcz9_0 := hC BK109 0 (.int .i64 0);have hcz9_1 := hC BK109 1 (.int .i64 0);have hfz9_0 := blk_frozen BK109.out 0;have hfz9_1 := blk_frozen BK109.out 1;have hcz10_0 := hC BK106 0 (.int .i64 0);have hcz10_1 := hC BK106 1 (.int .i64 0);have hfz10_0 := blk_frozen BK106.out 0;have hfz10_1 := blk_frozen BK106.out 1))
    refine bodyPost_ret (results_cell_row rfl _ _ gb106 24 #[.int .i64 t107, .int .i64 t108] (0, 0) _ rfl kK Try.underlying24 rfl (by kernel_rfl)) rfl ?_;exact ⟨rW, eB⟩
  · rw [if_neg c4] at H;have c4b0 : (!(t107 == 0) || (!(t108 == 0))) = false := (by simpa using c4);clear c4;replace H := Option.bind_eq_some_iff.mp H;obtain ⟨t110, A110, H⟩ := H;replace H : (if t110 = 0 then (some (0, 0)) else (some (t110, (-2)))) = some (r1, r2) := H;have A11 := Aside0.mk A110;clear A110
    by_cases c12 : t110 = 0
    · rw [if_pos c12] at H;have c12b0 : (t110 == 0) = true := beq_iff_eq.mpr c12;have c12b1 : (t110 != 0) = false := bne_eq_false_iff_eq.mpr c12;clear c12;simp only [Option.some.injEq, Prod.mk.injEq] at H;obtain ⟨rfl, rfl⟩ := H
      go_enter Try.func41, Try.ntmps41
      go_wp2_with (first|((with_reducible refine gate_dst (N := 4) rfl ?_);refine bE 4 #[.int .i64 0, .int .i64 0] 24 ?_;intro gb106 hg w13 hbox hb;have BK106 := Aside0.mk (hbox);have GW106 := gBe HB hg;have GE106 := gBe HB hg;replace HB := sBe HB hb;clear hb hbox hg)|((with_reducible refine gate_callee (f := 69) rfl ?_);refine goesL_ (some 8) rfl rfl Try.func69 (by kernel_rfl) rfl #[.slice A0 l0.length c0] rfl mA ?_;(with_reducible refine (lines_Validate.calls _ _ l0 t107 t108 _ ?side1 ?side2 A3.out).mono ?_);(case side1 => exact cBe HR0);(case side2 => exact HC0.out);rintro e w14 ⟨rfl, hb⟩;refine ⟨_, rfl, ?_⟩;replace BK106 := lJ BK106 hb;replace HB := sBe HB hb;(try clear hb))|((with_reducible refine gate_dst (N := 5) rfl ?_);refine bE 5 #[.int .i64 0, .int .i64 0] 24 ?_;intro gb109 hg w15 hbox hb;have BK109 := Aside0.mk (hbox);have GW109 := gBe HB hg;have GE109 := gBe HB hg;have NB106_109 := nL BK106 hg;have NB109_106 := nG BK106 hg;replace BK106 := lJ BK106 hb;replace HB := sBe HB hb;clear hb hbox hg;have hnb16 := eq_false NB109_106.out;have hnc16 := eq_false NB106_109.out;have hcz17_0 := hC BK109 0 (.int .i64 0);have hcz17_1 := hC BK109 1 (.int .i64 0);have hfz17_0 := blk_frozen BK109.out 0;have hfz17_1 := blk_frozen BK109.out 1)|((with_reducible refine gate_callee (f := 54) rfl ?_);refine goesL_ (some 14) rfl rfl Try.func54 (by kernel_rfl) rfl #[.slice A1 l1.length c1] rfl mA ?_;(with_reducible refine (lines_Code.calls _ _ l1 t110 _ ?side1 ?side2 A11.out).mono ?_);(case side1 => exact Kd.C_below HR1.out eB);(case side2 => exact HC1.out);rintro e w18 ⟨rfl, hb⟩;refine ⟨_, rfl, ?_⟩;replace BK106 := lJ BK106 hb;replace BK109 := lK gb109 24 #[.int .i64 t107, .int .i64 t108] hb;replace HB := sBe HB hb;(try clear hb);have hcz19_0 := hC BK106 0 (.int .i64 0);have hcz19_1 := hC BK106 1 (.int .i64 0);have hfz19_0 := blk_frozen BK106.out 0;have hfz19_1 := blk_frozen BK106.out 1))
      refine bodyPost_ret (results_cell_row rfl _ _ gb106 24 #[.int .i64 0, .int .i64 0] (0, 0) _ rfl kK Try.underlying24 rfl (by kernel_rfl)) rfl ?_;exact ⟨rW, eB⟩
    · rw [if_neg c12] at H;have c12b0 : (t110 == 0) = false := beq_eq_false_iff_ne.mpr c12;have c12b1 : (t110 != 0) = true := bne_iff_ne.mpr c12;simp only [Option.some.injEq, Prod.mk.injEq] at H;obtain ⟨rfl, rfl⟩ := H
      go_enter Try.func41, Try.ntmps41
      go_wp2_with (first|((with_reducible refine gate_dst (N := 4) rfl ?_);refine bE 4 #[.int .i64 0, .int .i64 0] 24 ?_;intro gb106 hg w20 hbox hb;have BK106 := Aside0.mk (hbox);have GW106 := gBe HB hg;have GE106 := gBe HB hg;replace HB := sBe HB hb;clear hb hbox hg)|((with_reducible refine gate_callee (f := 69) rfl ?_);refine goesL_ (some 8) rfl rfl Try.func69 (by kernel_rfl) rfl #[.slice A0 l0.length c0] rfl mA ?_;(with_reducible refine (lines_Validate.calls _ _ l0 t107 t108 _ ?side1 ?side2 A3.out).mono ?_);(case side1 => exact cBe HR0);(case side2 => exact HC0.out);rintro e w21 ⟨rfl, hb⟩;refine ⟨_, rfl, ?_⟩;replace BK106 := lJ BK106 hb;replace HB := sBe HB hb;(try clear hb))|((with_reducible refine gate_dst (N := 5) rfl ?_);refine bE 5 #[.int .i64 0, .int .i64 0] 24 ?_;intro gb109 hg w22 hbox hb;have BK109 := Aside0.mk (hbox);have GW109 := gBe HB hg;have GE109 := gBe HB hg;have NB106_109 := nL BK106 hg;have NB109_106 := nG BK106 hg;replace BK106 := lJ BK106 hb;replace HB := sBe HB hb;clear hb hbox hg;have hnb23 := eq_false NB109_106.out;have hnc23 := eq_false NB106_109.out;have hcz24_0 := hC BK109 0 (.int .i64 0);have hcz24_1 := hC BK109 1 (.int .i64 0);have hfz24_0 := blk_frozen BK109.out 0;have hfz24_1 := blk_frozen BK109.out 1)|((with_reducible refine gate_callee (f := 54) rfl ?_);refine goesL_ (some 14) rfl rfl Try.func54 (by kernel_rfl) rfl #[.slice A1 l1.length c1] rfl mA ?_;(with_reducible refine (lines_Code.calls _ _ l1 t110 _ ?side1 ?side2 A11.out).mono ?_);(case side1 => exact Kd.C_below HR1.out eB);(case side2 => exact HC1.out);rintro e w25 ⟨rfl, hb⟩;refine ⟨_, rfl, ?_⟩;replace BK106 := lJ BK106 hb;replace BK109 := lK gb109 24 #[.int .i64 t107, .int .i64 t108] hb;replace HB := sBe HB hb;(try clear hb);have hcz26_0 := hC BK106 0 (.int .i64 0);have hcz26_1 := hC BK106 1 (.int .i64 0);have hfz26_0 := blk_frozen BK106.out 0;have hfz26_1 := blk_frozen BK106.out 1))
      refine bodyPost_ret (results_cell_row rfl _ _ gb106 24 #[.int .i64 t110, .int .i64 (-2)] (0, 0) _ rfl kK Try.underlying24 rfl (by kernel_rfl)) rfl ?_;exact ⟨rW, eB⟩

/-! ### lines_Two: function 41 -/
def lines_Two.f (l0 : List ByteArray) (l1 : List ByteArray) : Option (Int × Int) :=  some (twoFault l0 l1)
theorem lines_Two.calls (A0 : Option Addr) (c0 : Nat) (l0 : List ByteArray) (A1 : Option Addr) (c1 : Nat) (l1 : List ByteArray) (r1 : Int) (r2 : Int) (w : World) (hr0 : Kd.C Kd.string w A0 l0.length l0) (hc0 : l0.length ≤ c0) (hr1 : Kd.C Kd.string w A1 l1.length l1) (hc1 : l1.length ≤ c1) (h : lines_Two.f l0 l1 = some (r1, r2)) :
    Calls Try.prog 41 #[.slice A0 l0.length c0, .slice A1 l1.length c1] w fun e w' => e = .returned (.agg #[.int .i64 r1, .int .i64 r2]) ∧ Below w.heap.size w w' := by
  have h' : lines_Two_0.f l0 l1 = some (r1, r2) := by
    rw [← h]
    unfold lines_Two_0.f lines_Two.f twoFault
    simp only [lines_Validate.f, lines_Code.f, Option.bind_some, fault_ne (linesFault_or l0), decide_eq_true_iff]
    by_cases c : linesFault l0 = (0, 0)
    · rw [if_neg (by simpa using c), if_pos c]
      by_cases c2 : (linesFault l1).1 = 0
      · rw [if_pos c2, if_pos c2]
      · rw [if_neg c2, if_neg c2]
    · rw [if_pos c, if_neg c]
  exact (lines_Two_0.calls A0 c0 l0 A1 c1 l1 r1 r2 w hr0 hc0 hr1 hc1 (h'))


/-! ### diff_measure: function 42 -/
def diff_measure.f (l0 : List ByteArray) (l1 : List ByteArray) : Option ((List (List Int))) :=  if l0.length ≤ 1000 ∧ l1.length ≤ 1000 then some (lcsTab l0 l1) else none
theorem diff_measure_info2 : (Try.prog.info? 3).map (fun i => (i.zero, i.size, i.bytes)) = some (some (.int .i64 0), 1, 8) := by kernel_rfl
theorem diff_measure_info : (Try.prog.info? 63).map (fun i => (i.zero, i.size, i.bytes)) = some (some (.slice none 0 0), 1, 24) := by kernel_rfl
section
attribute [local irreducible] wpStill
set_option maxHeartbeats 40000000 in
set_option maxRecDepth 100000 in
theorem diff_measure.calls (A0 : Option Addr) (c0 : Nat) (l0 : List ByteArray) (A1 : Option Addr) (c1 : Nat) (l1 : List ByteArray) (r : List (List Int)) (w : World) (hr0 : Kd.C Kd.string w A0 l0.length l0) (hc0 : l0.length ≤ c0) (hr1 : Kd.C Kd.string w A1 l1.length l1) (hc1 : l1.length ≤ c1) (h : diff_measure.f l0 l1 = some r) :
    Calls Try.prog 42 #[.slice A0 l0.length c0, .slice A1 l1.length c1] w fun e w' => ∃ v0_ : Value, e = .returned (v0_) ∧ Kd.S (Kd.slice 3 (Kd.int .i64)) 63 w' w.heap.size (fun _ => True) v0_ r ∧ Below w.heap.size w w' := by
  replace h : (if l0.length ≤ 1000 ∧ l1.length ≤ 1000 then some (lcsTab l0 l1) else none) = some r := h
  obtain ⟨⟨hm, hn⟩, hr⟩ : (l0.length ≤ 1000 ∧ l1.length ≤ 1000) ∧ lcsTab l0 l1 = r := by
    split at h
    · rename_i hs; exact ⟨hs, Option.some.inj h⟩
    · cases h
  clear h
  have HR0 := Aside0.mk hr0
  have HR1 := Aside0.mk hr1
  have HR := Aside0.mk hr
  clear hr0 hr1 hr
  go_enter Try.func42, Try.ntmps42
  go_wp2_with ((with_reducible refine gate_dst (N := 12) rfl ?_); refine Kd.S_make (Kd.slice 3 (Kd.int .i64)) _ 63 rfl (N := 12) rfl 65 _ _ rfl ((l0.length : Int) + 1) rfl rfl Try.underlying65 (.slice none 0 0) 24 diff_measure_info rfl (by decide) (by omega) [] (ok := fun _ => True) (okp := fun _ => True) ⟨_, rfl, Kd.R_nil _ _ _ _ _⟩ (fun _ hk => hk) trivial (by omega) (by omega) (Below.refl _ _) (Nat.le_refl _) ?_; intro v w1 ho hb hg_ hnew_; clear hg_ hnew_; obtain ⟨g, cap, rfl, hgb, hS⟩ := tab_made l0.length l1.length ho; have HS := Aside0.mk hS; have HB := Aside0.mk hb; clear ho hb hS)
  go_loopw [15] (fun v15 wr => ∃ i : Nat, v15 = .int .i64 i ∧ Aside0 (i ≤ l0.length + 1) ∧ Aside0 (Kd.S (Kd.slice 3 (Kd.int .i64)) 63 wr w.heap.size (fun _ => True) (.slice (some ⟨g, 0, none⟩) (l0.length + 1) cap) (rows1 l0.length l1.length i)) ∧ Aside0 (Below w.heap.size w wr)) (fun v15 wr => l0.length + 1 - (intOf v15).toNat)
  case atStart => exact ⟨0, rfl, ⟨by omega⟩, HS, HB⟩
  case round =>
    clear HS HB
    obtain ⟨i, rfl, HI, HS, HB⟩ := hrel
    have hi' := HI.out
    by_cases hi : i < l0.length + 1
    · go_wp2_with ((with_reducible refine gate_dst (N := 23) rfl ?_); refine Kd.R_make (Kd.int .i64) _ 3 rfl (N := 23) rfl 63 _ _ rfl ((l1.length : Int) + 1) rfl rfl Try.underlying63 (.int .i64 0) 8 diff_measure_info2 rfl (by decide) (by omega) 0 (ok := fun _ => True) (okp := fun _ => True) rfl (fun _ hk => hk) trivial (by omega) (by omega) (Below.refl _ _) (Nat.le_refl _) ?_; intro v w2 ho hb hg_ hnew_; clear hg_ hnew_; obtain ⟨g2, cap2, A, c, rfl, hcell, hfr, hs2, hb2⟩ := tab_newrow HS.out HB.out hgb hb ho i hi; have HS2 := Aside0.mk hs2; have HB2 := Aside0.mk hb2; clear hs2 hb2 hb ho)
      rw [rows1_set] at HS2
      go_roundw
      case rel => exact ⟨i + 1, by go_num, ⟨by omega⟩, HS2, HB2⟩
      case measure => simp [intOf]; omega
    · obtain rfl : i = l0.length + 1 := by omega
      rw [rows1_full] at HS
      rw [lcsFrom_start] at HS
      clear hi hi' HI
      go_wp2
      generalize ((l0.length + 1 : Nat) : Int) = q15
      go_loopw [7] (fun v7 wr => ∃ (iN : Nat) (x7 : Int), v7 = .int .i64 x7 ∧ Aside0 (x7 = (iN : Int) - 1 ∧ iN ≤ l0.length) ∧ Aside0 (Kd.S (Kd.slice 3 (Kd.int .i64)) 63 wr w.heap.size (fun _ => True) (.slice (some ⟨g, 0, none⟩) (l0.length + 1) cap) (tab l0.length l1.length (lcsFrom l0 l1 iN 0))) ∧ Aside0 (Below w.heap.size w wr)) (fun v7 wr => (intOf v7 + 1).toNat)
      case atStart => exact ⟨l0.length, _, rfl, ⟨rfl, Nat.le_refl _⟩, HS, HB⟩
      case round =>
        clear HS HB
        obtain ⟨iN, x7, rfl, HI, HS, HB⟩ := hrel
        obtain ⟨hi1, hi2⟩ := HI.out
        cases iN with
        | zero =>
          have hneg : x7 < 0 := by omega
          clear hi1 HI
          rw [lcsFrom_full, HR.out] at HS
          go_wp2
          refine bodyPost_ret (results_tmp rfl _ _ _) rfl ?_
          exact ⟨_, rfl, HS.out, HB.out⟩
        | succ i =>
          obtain rfl : x7 = (i : Int) := by omega
          rw [lcsFrom_row] at HS
          clear hi1 HI
          go_wp2
          go_loopw [8] (fun v8 wr => ∃ (jN : Nat) (x8 : Int), v8 = .int .i64 x8 ∧ Aside0 (x8 = (jN : Int) - 1 ∧ jN ≤ l1.length) ∧ Aside0 (Kd.S (Kd.slice 3 (Kd.int .i64)) 63 wr w.heap.size (fun _ => True) (.slice (some ⟨g, 0, none⟩) (l0.length + 1) cap) (tab l0.length l1.length (lcsFrom l0 l1 i jN))) ∧ Aside0 (Below w.heap.size w wr)) (fun v8 wr => (intOf v8 + 1).toNat)
          case atStart => exact ⟨l1.length, _, rfl, ⟨rfl, Nat.le_refl _⟩, HS, HB⟩
          case round =>
            clear HS HB
            obtain ⟨jN, x8, rfl, HJ, HS, HB⟩ := hrel
            obtain ⟨hj1, hj2⟩ := HJ.out
            cases jN with
            | zero =>
              have hneg : x8 < 0 := by omega
              clear hj1 HJ
              go_wp2
              go_roundw
              case rel => exact ⟨i, _, rfl, ⟨by first | rfl | omega, by omega⟩, HS, HB⟩
              case measure => simp [intOf]
            | succ j =>
              obtain rfl : x8 = (j : Int) := by omega
              clear hj1 HJ
              have hil : i < l0.length := by omega
              have hjl : j < l1.length := by omega
              have b0 : (i : Int) < (l0.length : Int) + 1 := by omega
              have b2 : (j : Int) < (l1.length : Int) + 1 := by omega
              obtain ⟨ad0, e0, hx0⟩ := Kd.at_string HR0.out (i : Int) (by omega) (by omega)
              obtain ⟨ad1, e1, hx1⟩ := Kd.at_string HR1.out (j : Int) (by omega) (by omega)
              cases e0
              cases e1
              rw [Int.toNat_natCast] at hx0 hx1
              replace hx0 := (HB.out.cell (World.block_lt_of_cell? w _ hx0)).trans hx0
              replace hx1 := (HB.out.cell (World.block_lt_of_cell? w _ hx1)).trans hx1
              have hst := lcsAt_step l0 l1 i j (by omega) (by omega)
              generalize rdOf ByteArray.empty l0 (i : Int) = s at *
              generalize rdOf ByteArray.empty l1 (j : Int) = t at *
              have HST := Aside0.mk hst
              clear hst
              by_cases c : s.toList = t.toList
              · have b1 : (s.toList == t.toList) = true := by simp [c]
                have C := Aside0.mk c
                clear c
                go_wp2_with fail
                refine still_drew (by kernel_rfl) (by kernel_rfl) ?_
                iterate 9 (refine still_yes (by kernel_rfl) (fun K hK => ?_); go_simp; refine hK _ ?_; clear hK K)
                refine wpStill_nil ?_
                go_wp2_with fail
                have hsd := Kd.S_drew HS.out
                have HBd := Aside0.mk HB.out.drew
                clear hx0 hx1
                generalize wr.drew = wd at *
                clear HS HB
                obtain ⟨gi, ci, hci, hli, hbi, hri, hseti⟩ := tab_fget hsd i (by omega)
                obtain ⟨gk, ck, hck, hlk, hbk, hrk, _⟩ := tab_fget hsd (i + 1) (by omega)
                have v1 := (hrk (j + 1) (by omega)).1
                obtain ⟨v0, f0⟩ := hri j (by omega)
                rw [lcsFrom_at l0 l1 (by omega)] at v1
                have hrg := lcsAt_range l0 l1 (i + 1) (j + 1)
                have hs := hseti j (lcsAt l0 l1 (i + 1) (j + 1) + 1)
                have e := HST.out
                rw [if_pos C.out] at e
                rw [← e, lcsFrom_set, e] at hs
                have HS' := Aside0.mk hs
                clear hs e hsd hri hrk hseti
                generalize lcsAt l0 l1 (i + 1) (j + 1) = x at *
                have ei0 : (0 : Int) ≤ (i : Int) + 1 := by omega
                have ei1 : (i : Int) + 1 < (l0.length : Int) + 1 := by omega
                have ei2 : ((i : Int) + 1).toNat = i + 1 := by omega
                have ej0 : (0 : Int) ≤ (j : Int) + 1 := by omega
                have ej1 : (j : Int) + 1 < (l1.length : Int) + 1 := by omega
                have ej2 : ((j : Int) + 1).toNat = j + 1 := by omega
                have ei3 : IntKind.i64.wrap ((i : Int) + 1) = (i : Int) + 1 := (i64_w _).trans (w64 (by omega) (by omega))
                have ej3 : IntKind.i64.wrap ((j : Int) + 1) = (j : Int) + 1 := (i64_w _).trans (w64 (by omega) (by omega))
                have ex3 : IntKind.i64.wrap (x + 1) = x + 1 := (i64_w _).trans (w64 (by omega) (by omega))
                refine still_tail_drew 15 (by kernel_rfl) (by kernel_rfl) ?_
                simp only [List.take_succ_cons, List.take_zero, List.drop_succ_cons, List.drop_zero]
                iterate 15 (refine still_yes (by kernel_rfl) (fun K hK => ?_); go_simp; refine hK _ ?_; clear hK K)
                refine wpStill_nil ?_
                go_wp2
                go_roundw
                case rel => exact ⟨j, _, rfl, ⟨by first | rfl | omega, by omega⟩, ⟨Kd.S_drew HS'.out⟩, ⟨(HBd.out.setCell (p := ⟨gi, j, none⟩) hbi _).drew⟩⟩
                case measure => simp [intOf]
              · have b1 : (s.toList == t.toList) = false := by simp [c]
                have C := Aside0.mk c
                clear c
                go_wp2_with fail
                refine still_drew (by kernel_rfl) (by kernel_rfl) ?_
                iterate 9 (refine still_yes (by kernel_rfl) (fun K hK => ?_); go_simp; refine hK _ ?_; clear hK K)
                refine wpStill_nil ?_
                go_wp2_with fail
                have hsd := Kd.S_drew HS.out
                have HBd := Aside0.mk HB.out.drew
                clear hx0 hx1
                generalize wr.drew = wd at *
                clear HS HB
                obtain ⟨gi, ci, hci, hli, hbi, hri, hseti⟩ := tab_fget hsd i (by omega)
                obtain ⟨gk, ck, hck, hlk, hbk, hrk, _⟩ := tab_fget hsd (i + 1) (by omega)
                have v1 := (hrk j (by omega)).1
                have v2 := (hri (j + 1) (by omega)).1
                obtain ⟨v0, f0⟩ := hri j (by omega)
                rw [lcsFrom_at l0 l1 (by omega)] at v1 v2
                have hs := hseti j (mx (lcsAt l0 l1 (i + 1) j) (lcsAt l0 l1 i (j + 1)))
                have e := HST.out
                rw [if_neg C.out] at e
                rw [← e, lcsFrom_set, e] at hs
                have HS' := Aside0.mk hs
                clear hs e hsd hri hrk hseti
                generalize lcsAt l0 l1 (i + 1) j = x at *
                generalize lcsAt l0 l1 i (j + 1) = y at *
                have ei0 : (0 : Int) ≤ (i : Int) + 1 := by omega
                have ei1 : (i : Int) + 1 < (l0.length : Int) + 1 := by omega
                have ei2 : ((i : Int) + 1).toNat = i + 1 := by omega
                have ej0 : (0 : Int) ≤ (j : Int) + 1 := by omega
                have ej1 : (j : Int) + 1 < (l1.length : Int) + 1 := by omega
                have ej2 : ((j : Int) + 1).toNat = j + 1 := by omega
                have ei3 : IntKind.i64.wrap ((i : Int) + 1) = (i : Int) + 1 := (i64_w _).trans (w64 (by omega) (by omega))
                have ej3 : IntKind.i64.wrap ((j : Int) + 1) = (j : Int) + 1 := (i64_w _).trans (w64 (by omega) (by omega))
                refine still_tail_drew 22 (by kernel_rfl) (by kernel_rfl) ?_
                simp only [List.take_succ_cons, List.take_zero, List.drop_succ_cons, List.drop_zero]
                iterate 22 (refine still_yes (by kernel_rfl) (fun K hK => ?_); go_simp; refine hK _ ?_; clear hK K)
                refine wpStill_nil ?_
                go_wp2
                go_roundw
                case rel => exact ⟨j, _, rfl, ⟨by first | rfl | omega, by omega⟩, ⟨Kd.S_drew HS'.out⟩, ⟨(HBd.out.setCell (p := ⟨gi, j, none⟩) hbi _).drew⟩⟩
                case measure => simp [intOf]
end


/-! ### diff_Distance_0: function 15 -/
def diff_Distance_0.f (l0 : List ByteArray) (l1 : List ByteArray) : Option (Int × Int × Int) := (lines_Two.f l0 l1).bind fun bt112 => (if (!(bt112.1 == 0) || (!(bt112.2 == 0))) = true then (some (0, bt112.1, bt112.2)) else ((diff_measure.f l0 l1).bind fun t115 => (if 0 < (t115.length : Int) then (if 0 < ((rd_L2 t115 0).length : Int) then (some (wrap64 ((wrap64 ((l0.length : Int) + (l1.length : Int))) - (wrap64 (2 * (rd (rd_L2 t115 0) 0)))), 0, 0)) else (none)) else (none))))
set_option maxHeartbeats 8000000 in
set_option maxRecDepth 100000 in
theorem diff_Distance_0.calls (A0 : Option Addr) (c0 : Nat) (l0 : List ByteArray) (A1 : Option Addr) (c1 : Nat) (l1 : List ByteArray) (r1 : Int) (r2 : Int) (r3 : Int) (w : World) (hr0 : Kd.C Kd.string w A0 l0.length l0) (hc0 : l0.length ≤ c0) (hr1 : Kd.C Kd.string w A1 l1.length l1) (hc1 : l1.length ≤ c1) (h : diff_Distance_0.f l0 l1 = some (r1, r2, r3)) :
    Calls Try.prog 15 #[.slice A0 l0.length c0, .slice A1 l1.length c1] w fun e w' => e = .returned (.tuple #[.int .i64 r1, .agg #[.int .i64 r2, .int .i64 r3]]) ∧ Below w.heap.size w w' := by
  have hu24 := Try.underlying24;have HR0 := Aside0.mk hr0;have HC0 := Aside0.mk hc0;clear hr0 hc0;have HR1 := Aside0.mk hr1;have HC1 := Aside0.mk hc1;clear hr1 hc1;have HB := Aside0.mk (Below.refl w.heap.size w);have H : ((lines_Two.f l0 l1).bind fun bt112 => (if (!(bt112.1 == 0) || (!(bt112.2 == 0))) = true then (some (0, bt112.1, bt112.2)) else ((diff_measure.f l0 l1).bind fun t115 => (if 0 < (t115.length : Int) then (if 0 < ((rd_L2 t115 0).length : Int) then (some (wrap64 ((wrap64 ((l0.length : Int) + (l1.length : Int))) - (wrap64 (2 * (rd (rd_L2 t115 0) 0)))), 0, 0)) else (none)) else (none))))) = some (r1, r2, r3) := h;clear h;replace H := Option.bind_eq_some_iff.mp H;obtain ⟨⟨t112, t113⟩, A30, H⟩ := H;replace H : (if (!(t112 == 0) || (!(t113 == 0))) = true then (some (0, t112, t113)) else ((diff_measure.f l0 l1).bind fun t115 => (if 0 < (t115.length : Int) then (if 0 < ((rd_L2 t115 0).length : Int) then (some (wrap64 ((wrap64 ((l0.length : Int) + (l1.length : Int))) - (wrap64 (2 * (rd (rd_L2 t115 0) 0)))), 0, 0)) else (none)) else (none)))) = some (r1, r2, r3) := H;have A3 := Aside0.mk A30;clear A30
  by_cases c4 : (!(t112 == 0) || (!(t113 == 0))) = true
  · rw [if_pos c4] at H;have c4b0 : (!(t112 == 0) || (!(t113 == 0))) = true := c4;clear c4;simp only [Option.some.injEq, Prod.mk.injEq] at H;obtain ⟨rfl, rfl, rfl⟩ := H
    go_enter Try.func15, Try.ntmps15
    try go_wp2_with (first|((with_reducible refine gate_dst (N := 5) rfl ?_);refine bE 5 #[.int .i64 0, .int .i64 0] 24 ?_;intro gb111 hg w5 hbox hb;have BK111 := Aside0.mk (hbox);have GW111 := gBe HB hg;have GE111 := gBe HB hg;replace HB := sBe HB hb;clear hb hbox hg)|((with_reducible refine gate_callee (f := 41) rfl ?_);refine goesL_ (some 9) rfl rfl Try.func41 (by kernel_rfl) rfl #[.slice A0 l0.length c0, .slice A1 l1.length c1] rfl mA ?_;(with_reducible refine (lines_Two.calls _ _ l0 _ _ l1 t112 t113 _ ?side1 ?side2 ?side3 ?side4 A3.out).mono ?_);(case side1 => exact cBe HR0);(case side2 => exact HC0.out);(case side3 => exact cBe HR1);(case side4 => exact HC1.out);rintro e w6 ⟨rfl, hb⟩;refine ⟨_, rfl, ?_⟩;replace BK111 := lJ BK111 hb;replace HB := sBe HB hb;(try clear hb))|((with_reducible refine gate_dst (N := 6) rfl ?_);refine bE 6 #[.int .i64 0, .int .i64 0] 24 ?_;intro gb114 hg w7 hbox hb;have BK114 := Aside0.mk (hbox);have GW114 := gBe HB hg;have GE114 := gBe HB hg;have NB111_114 := nL BK111 hg;have NB114_111 := nG BK111 hg;replace BK111 := lJ BK111 hb;replace HB := sBe HB hb;clear hb hbox hg;have hnb8 := eq_false NB114_111.out;have hnc8 := eq_false NB111_114.out;have hcz9_0 := hC BK114 0 (.int .i64 0);have hcz9_1 := hC BK114 1 (.int .i64 0);have hfz9_0 := blk_frozen BK114.out 0;have hfz9_1 := blk_frozen BK114.out 1))
    obtain ⟨w10, hW_⟩ : ∃ w_, w_ = ((w7.setCell ⟨gb114, 0, none⟩ (.int .i64 t112)).setCell ⟨gb114, 1, none⟩ (.int .i64 t113)) := ⟨_, rfl⟩;have n0_ : Bk w10 gb111 24 #[.int .i64 0, .int .i64 0] := ⟨by rw [hW_];exact kK⟩;have n1_ : Bk w10 gb114 24 #[.int .i64 t112, .int .i64 t113] := ⟨by rw [hW_];exact kK⟩;have n2_ : Aside0 (Below w.heap.size w w10) := ⟨by rw [hW_];exact eB⟩;(try clear BK111);(try clear BK114);(try clear HB);(try rw [← hW_]);clear hW_;have BK111 := n0_;have BK114 := n1_;have HB := n2_;clear n0_ n1_ n2_;replace BK111 := Aside0.mk (blk_drew BK111.out);replace BK114 := Aside0.mk (blk_drew BK114.out);replace HB := Aside0.mk (below_drew1 HB.out);refine start_ (n := 3) (S := fun w' => w'.cell? ⟨gb114, 0, none⟩ = some (.int .i64 t112) ∧ w'.cell? ⟨gb114, 1, none⟩ = some (.int .i64 t113)) (ds := []) (mb 3 0) (by kernel_rfl) rfl (by kernel_rfl) ⟨(blk_cell BK114.out 0).trans rfl, (blk_cell BK114.out 1).trans rfl⟩ (fun hHeld => ?_);generalize w10.drew = w11 at BK111 BK114 HB hHeld ⊢;refine pB 1 4 (mb 3 2) rfl rfl ?_;refine tB 0 13 (mb 3 3) hHeld rfl rfl (by rintro w' ⟨s0, s1⟩;go_simp;with_reducible rfl) ?_;refine one_ (i := 2) (N := none) (mb 3 7) rfl rfl (by kernel_rfl) (by decide) (fun K hK => ?_);have hs12 : w11.cell? ⟨gb111, 0, none⟩ = some (.int .i64 0) := (blk_cell BK111.out 0).trans rfl;have hfs12 := blk_frozen BK111.out 0;have := NB114_111.out;have := NB111_114.out;have hs13 : w11.cell? ⟨gb111, 1, none⟩ = some (.int .i64 0) := (blk_cell BK111.out 1).trans rfl;have hfs13 := blk_frozen BK111.out 1;have := NB114_111.out;have := NB111_114.out;refine skip_ (w1 := ?_) (by rfl) rfl ?_ ?_;rotate_left
    · go_simp
      rfl
    refine hK.out _ _ ⟨((cell_far (p := ⟨gb111, _, none⟩) NB114_111.out _).trans (((cell_far (p := ⟨gb111, _, none⟩) NB114_111.out _).trans (hHeld.1)))), ((cell_far (p := ⟨gb111, _, none⟩) NB114_111.out _).trans (((cell_far (p := ⟨gb111, _, none⟩) NB114_111.out _).trans (hHeld.2))))⟩ (fun hHeld => ?_);clear hK K;refine done_ (by kernel_rfl) ?_
    try go_wp2
    refine bodyPost_ret (results_tc rfl _ _ gb111 24 #[.int .i64 t112, .int .i64 t113] (0, 0) _ rfl kK Try.underlying24 rfl (by kernel_rfl)) rfl ?_;exact ⟨rW, eB⟩
  · rw [if_neg c4] at H;have c4b0 : (!(t112 == 0) || (!(t113 == 0))) = false := (by simpa using c4);clear c4;replace H := Option.bind_eq_some_iff.mp H;obtain ⟨t115, A140, H⟩ := H;replace H : (if 0 < (t115.length : Int) then (if 0 < ((rd_L2 t115 0).length : Int) then (some (wrap64 ((wrap64 ((l0.length : Int) + (l1.length : Int))) - (wrap64 (2 * (rd (rd_L2 t115 0) 0)))), 0, 0)) else (none)) else (none)) = some (r1, r2, r3) := H;have A14 := Aside0.mk A140;clear A140
    by_cases c15 : 0 < (t115.length : Int)
    · rw [if_pos c15] at H;have c15b0 : decide (0 < (t115.length : Int)) = true := decide_eq_true c15;have c15b1 : decide (0 < t115.length) = true := decide_eq_true (by omega);clear c15
      by_cases c16 : 0 < ((rd_L2 t115 0).length : Int)
      · rw [if_pos c16] at H;have c16b0 : decide (0 < ((rd_L2 t115 0).length : Int)) = true := decide_eq_true c16;have c16b1 : decide (0 < (rd_L2 t115 0).length) = true := decide_eq_true (by omega);clear c16;simp only [Option.some.injEq, Prod.mk.injEq] at H;obtain ⟨rfl, rfl, rfl⟩ := H
        go_enter Try.func15, Try.ntmps15
        go_wp2_with (first|((with_reducible refine gate_dst (N := 5) rfl ?_);refine bE 5 #[.int .i64 0, .int .i64 0] 24 ?_;intro gb111 hg w17 hbox hb;have BK111 := Aside0.mk (hbox);have GW111 := gBe HB hg;have GE111 := gBe HB hg;replace HB := sBe HB hb;clear hb hbox hg)|((with_reducible refine gate_callee (f := 41) rfl ?_);refine goesL_ (some 9) rfl rfl Try.func41 (by kernel_rfl) rfl #[.slice A0 l0.length c0, .slice A1 l1.length c1] rfl mA ?_;(with_reducible refine (lines_Two.calls _ _ l0 _ _ l1 t112 t113 _ ?side1 ?side2 ?side3 ?side4 A3.out).mono ?_);(case side1 => exact cBe HR0);(case side2 => exact HC0.out);(case side3 => exact cBe HR1);(case side4 => exact HC1.out);rintro e w18 ⟨rfl, hb⟩;refine ⟨_, rfl, ?_⟩;replace BK111 := lJ BK111 hb;replace HB := sBe HB hb;(try clear hb))|((with_reducible refine gate_dst (N := 6) rfl ?_);refine bE 6 #[.int .i64 0, .int .i64 0] 24 ?_;intro gb114 hg w19 hbox hb;have BK114 := Aside0.mk (hbox);have GW114 := gBe HB hg;have GE114 := gBe HB hg;have NB111_114 := nL BK111 hg;have NB114_111 := nG BK111 hg;replace BK111 := lJ BK111 hb;replace HB := sBe HB hb;clear hb hbox hg;have hnb20 := eq_false NB114_111.out;have hnc20 := eq_false NB111_114.out;have hcz21_0 := hC BK114 0 (.int .i64 0);have hcz21_1 := hC BK114 1 (.int .i64 0);have hfz21_0 := blk_frozen BK114.out 0;have hfz21_1 := blk_frozen BK114.out 1)|((with_reducible refine gate_callee (f := 42) rfl ?_);refine goesL_ (some 21) rfl rfl Try.func42 (by kernel_rfl) rfl #[.slice A0 l0.length c0, .slice A1 l1.length c1] rfl mA ?_;(with_reducible refine (diff_measure.calls _ _ l0 _ _ l1 t115 _ ?side1 ?side2 ?side3 ?side4 A14.out).mono ?_);(case side1 => exact Kd.C_below HR0.out eB);(case side2 => exact HC0.out);(case side3 => exact Kd.C_below HR1.out eB);(case side4 => exact HC1.out);rintro e w22 ⟨v116, rfl, ho0, hb⟩;refine ⟨_, rfl, ?_⟩;have HO117 := Aside0.mk (Kd.S_lower ho0 (below_size eB));replace BK111 := lJ BK111 hb;replace BK114 := lK gb114 24 #[.int .i64 t112, .int .i64 t113] hb;replace HB := sBe HB hb;(try clear hb ho0);obtain ⟨Ao23, co23, eo23⟩ := Kd.S_slice HO117.out;subst eo23;have p118 : 0 ≤ (0 : Int) := (by omega);have q118 : 0 < (t115.length : Int) := dA;obtain ⟨ad118, A118_0, c118_0, e118, hx118_0, hl118_0, hi118_0⟩ := at_L2 (Kd.S_reads' HO117.out).2.2 0 p118 q118;cases e118;obtain ⟨ce118, hce118, hMe118, hcc118⟩ := Kd.S_get HO117.out [] 0 p118 (by first|exact q118|exact dA|(have e_ := (Kd.S_reads' HO117.out).1;omega));obtain ⟨ve118_0, rfl, ge118_0⟩ := hMe118;have hv118_0 := hcc118 0 _ rfl;rw [Nat.add_zero, show ((Kd.slice 3 (Kd.int .i64))).sz = 1 from rfl, Nat.mul_one] at hv118_0;replace hv118_0 := Option.some.inj (hv118_0.symm.trans hx118_0);rw [hv118_0] at ge118_0;have HL118_0 := Aside0.mk (show Kd.R (Kd.int .i64) 3 _ _ _ _ (rd_L2 t115 0) from ge118_0);clear hv118_0 ge118_0;clear hcc118 hce118;have qi118 : (0 < t115.length) = True := eq_true (by omega);(try rw [show ((0 : Int)).toNat = 0 from rfl] at hx118_0);(try rw [Addr.add_zero'] at hx118_0);have HR118_0 := Aside0.mk hi118_0;have HC118_0 := Aside0.mk hl118_0;clear hi118_0 hl118_0;replace p118 := eq_true p118;replace q118 := eq_true q118;have p119 : 0 ≤ (0 : Int) := (by omega);have q119 : 0 < ((rd_L2 t115 0).length : Int) := dA;obtain ⟨ad119, e119, hx119_0⟩ := Kd.at_int (by repeat (first|(with_reducible exact HR118_0.out)|(with_reducible refine Kd.C_alloc ?_ _)|(with_reducible refine Kd.C_drewN ?_ _)|(with_reducible refine Kd.C_drew ?_)|exact HR118_0.out)) 0 p119 q119;cases e119;have qi119 : (0 < (rd_L2 t115 0).length) = True := eq_true (by omega);(try rw [show ((0 : Int)).toNat = 0 from rfl] at hx119_0);(try rw [Addr.add_zero'] at hx119_0);replace p119 := eq_true p119;replace q119 := eq_true q119;have hcz24_0 := hC BK111 0 (.int .i64 0);have hcz24_1 := hC BK111 1 (.int .i64 0);have hfz24_0 := blk_frozen BK111.out 0;have hfz24_1 := blk_frozen BK111.out 1))
        refine bodyPost_ret (results_tc rfl _ _ gb111 24 #[.int .i64 0, .int .i64 0] (0, 0) _ rfl kK Try.underlying24 rfl (by kernel_rfl)) rfl ?_;exact ⟨rW, eB⟩
      · rw [if_neg c16] at H;exact absurd H (by simp)
    · rw [if_neg c15] at H;exact absurd H (by simp)

/-! ### diff_Distance: function 15 -/
def diff_Distance.f (l0 : List ByteArray) (l1 : List ByteArray) : Option (Int × Int × Int) :=  some (distSpec l0 l1)
theorem diff_Distance.calls (A0 : Option Addr) (c0 : Nat) (l0 : List ByteArray) (A1 : Option Addr) (c1 : Nat) (l1 : List ByteArray) (r1 : Int) (r2 : Int) (r3 : Int) (w : World) (hr0 : Kd.C Kd.string w A0 l0.length l0) (hc0 : l0.length ≤ c0) (hr1 : Kd.C Kd.string w A1 l1.length l1) (hc1 : l1.length ≤ c1) (h : diff_Distance.f l0 l1 = some (r1, r2, r3)) :
    Calls Try.prog 15 #[.slice A0 l0.length c0, .slice A1 l1.length c1] w fun e w' => e = .returned (.tuple #[.int .i64 r1, .agg #[.int .i64 r2, .int .i64 r3]]) ∧ Below w.heap.size w w' := by
  have h' : diff_Distance_0.f l0 l1 = some (r1, r2, r3) := by
    rw [← h]
    unfold diff_Distance_0.f diff_Distance.f distSpec
    simp only [lines_Two.f, Option.bind_some, fault_ne (twoFault_or l0 l1), decide_eq_true_iff]
    by_cases z : twoFault l0 l1 = (0, 0)
    · rw [if_neg (by simpa using z), if_pos z]
      obtain ⟨z1, z2⟩ := twoFault_ok.1 z
      have h1 := (linesFault_ok.1 z1).1
      have h2 := (linesFault_ok.1 z2).1
      have hm : diff_measure.f l0 l1 = some (lcsTab l0 l1) := if_pos ⟨by omega, by omega⟩
      have hl : (lcsTab l0 l1).length = l0.length + 1 := tab_length _ _ _
      have hr : (rd_L2 (lcsTab l0 l1) 0).length = l1.length + 1 := by
        unfold rd_L2 lcsTab
        rw [show (0 : Int).toNat = 0 from rfl, tab_row _ _ _ _ (Nat.zero_le _)]
        simp
      have hv : rd (rd_L2 (lcsTab l0 l1) 0) 0 = (lcs l0 l1 : Nat) := by
        have := tab_rd l0.length l1.length (fun p q => (lcs (l0.drop p) (l1.drop q) : Int)) 0 0 (Nat.zero_le _) (Nat.zero_le _)
        exact this
      have hle := lcs_le l0 l1
      rw [hm]
      simp only [Option.bind_some]
      rw [hl, hr, hv, if_pos (by omega), if_pos (by omega)]
      unfold distOf
      rw [w64 (n := (l0.length : Int) + l1.length) (by omega) (by omega), w64 (n := 2 * ((lcs l0 l1 : Nat) : Int)) (by omega) (by omega), w64 (by omega) (by omega)]
    · rw [if_pos (by simpa using z), if_neg z]
  exact (diff_Distance_0.calls A0 c0 l0 A1 c1 l1 r1 r2 r3 w hr0 hc0 hr1 hc1 (h'))


/-! ### changeforgelaw1_moved: function 16 -/
def changeforgelaw1_moved.f  : Option (Bool) := (diff_Distance.f (([(⟨#[120]⟩ : ByteArray), (⟨#[121]⟩ : ByteArray)] : List ByteArray)) (([(⟨#[121]⟩ : ByteArray), (⟨#[120]⟩ : ByteArray)] : List ByteArray))).bind fun bt126 => (if bt126.2.1 = 0 then (some (bt126.1 == 2)) else (some false))
set_option maxHeartbeats 8000000 in
set_option maxRecDepth 100000 in
theorem changeforgelaw1_moved.calls  (r : Bool) (w : World) (h : changeforgelaw1_moved.f  = some r) :
    Calls Try.prog 16 #[] w fun e w' => e = .returned (.bool r) ∧ Below w.heap.size w w' := by
  have hu24 := Try.underlying24;have HB := Aside0.mk (Below.refl w.heap.size w);have H : ((diff_Distance.f (([(⟨#[120]⟩ : ByteArray), (⟨#[121]⟩ : ByteArray)] : List ByteArray)) (([(⟨#[121]⟩ : ByteArray), (⟨#[120]⟩ : ByteArray)] : List ByteArray))).bind fun bt126 => (if bt126.2.1 = 0 then (some (bt126.1 == 2)) else (some false))) = some r := h;clear h;obtain ⟨y120, hy120⟩ : ∃ y_ : List ByteArray, y_ = (([(⟨#[120]⟩ : ByteArray), (⟨#[121]⟩ : ByteArray)] : List ByteArray)) := ⟨_, rfl⟩;replace H : ((diff_Distance.f y120 (([(⟨#[121]⟩ : ByteArray), (⟨#[120]⟩ : ByteArray)] : List ByteArray))).bind fun bt126 => (if bt126.2.1 = 0 then (some (bt126.1 == 2)) else (some false))) = some r := (by first|(rw [hy120];with_reducible exact H)|(have H2_ := (Option.bind_some _ _).symm.trans H;rw [hy120];with_reducible exact H2_)|(have H2_ := (Option.bind_some _ _).symm.trans H;with_reducible exact H2_)|with_reducible exact H|(rw [hy120];exact H)|exact H);have Ny120 := Aside0.mk hy120;clear hy120;obtain ⟨y123, hy123⟩ : ∃ y_ : List ByteArray, y_ = (([(⟨#[121]⟩ : ByteArray), (⟨#[120]⟩ : ByteArray)] : List ByteArray)) := ⟨_, rfl⟩;replace H : ((diff_Distance.f y120 y123).bind fun bt126 => (if bt126.2.1 = 0 then (some (bt126.1 == 2)) else (some false))) = some r := (by first|(rw [hy123];with_reducible exact H)|(have H2_ := (Option.bind_some _ _).symm.trans H;rw [hy123];with_reducible exact H2_)|(have H2_ := (Option.bind_some _ _).symm.trans H;with_reducible exact H2_)|with_reducible exact H|(rw [hy123];exact H)|exact H);have Ny123 := Aside0.mk hy123;clear hy123;replace H := Option.bind_eq_some_iff.mp H;obtain ⟨⟨t126, t127, t128⟩, A10, H⟩ := H;replace H : (if t127 = 0 then (some (t126 == 2)) else (some false)) = some r := H;have A1 := Aside0.mk A10;clear A10
  by_cases c2 : t127 = 0
  · rw [if_pos c2] at H;have c2b0 : (t127 == 0) = true := beq_iff_eq.mpr c2;have c2b1 : (t127 != 0) = false := bne_eq_false_iff_eq.mpr c2;clear c2;obtain rfl := Option.some.inj H
    go_enter Try.func16, Try.ntmps16
    go_wp2_with (first|((with_reducible refine gate_dst (N := 4) rfl ?_);refine Kd.R_lit Kd.string _ 9 ?hg (N := 4) ?hd (xs := ([(⟨#[120]⟩ : ByteArray), (⟨#[121]⟩ : ByteArray)] : List ByteArray)) (inner := [.string (⟨#[120]⟩ : ByteArray), .string (⟨#[121]⟩ : ByteArray)]) (ok := fun _ => True) (okp := fun _ => True) ?hr ?hp (fun _ hk => hk) trivial (Below.refl _ _) (Nat.le_refl _) (by simp) ?_;(case hd => rfl);(case hg => rfl);(case hr => first|(go_simp;done)|(go_simp;rfl));(case hp => exact (Reps.one (show Kd.M Kd.string _ _ _ (⟨#[120]⟩ : ByteArray) [.string (⟨#[120]⟩ : ByteArray)] from rfl) (Reps.one (show Kd.M Kd.string _ _ _ (⟨#[121]⟩ : ByteArray) [.string (⟨#[121]⟩ : ByteArray)] from rfl) (Reps.none _ _))));intro v121 w3 ho4 hb hg_ hnew_;clear hg_ hnew_;(first|rw [← Ny120.out] at ho4|(simp only [Int.reduceToNat] at ho4;rw [← Ny120.out] at ho4));have HO122 := Aside0.mk (Kd.R_lower ho4 (below_size eB));replace HB := sBe HB hb;clear hb ho4)|((with_reducible refine gate_dst (N := 5) rfl ?_);refine Kd.R_lit Kd.string _ 9 ?hg (N := 5) ?hd (xs := ([(⟨#[121]⟩ : ByteArray), (⟨#[120]⟩ : ByteArray)] : List ByteArray)) (inner := [.string (⟨#[121]⟩ : ByteArray), .string (⟨#[120]⟩ : ByteArray)]) (ok := fun _ => True) (okp := fun _ => True) ?hr ?hp (fun _ hk => hk) trivial (Below.refl _ _) (Nat.le_refl _) (by simp) ?_;(case hd => rfl);(case hg => rfl);(case hr => first|(go_simp;done)|(go_simp;rfl));(case hp => exact (Reps.one (show Kd.M Kd.string _ _ _ (⟨#[121]⟩ : ByteArray) [.string (⟨#[121]⟩ : ByteArray)] from rfl) (Reps.one (show Kd.M Kd.string _ _ _ (⟨#[120]⟩ : ByteArray) [.string (⟨#[120]⟩ : ByteArray)] from rfl) (Reps.none _ _))));intro v124 w5 ho6 hb hg_ hnew_;clear hg_ hnew_;(first|rw [← Ny123.out] at ho6|(simp only [Int.reduceToNat] at ho6;rw [← Ny123.out] at ho6));have HO125 := Aside0.mk (Kd.R_lower (Kd.R_new' ho6 (Kd.R_lt (rK HO122))) (below_size eB));replace HO122 := Aside0.mk (Kd.R_elder' (rK HO122) (Kd.R_base ho6) hb);replace HB := sBe HB hb;clear hb ho6;obtain ⟨Ao7, co7, eo7⟩ := Kd.R_slice HO122.out;subst eo7;obtain ⟨Ao8, co8, eo8⟩ := Kd.R_slice HO125.out;subst eo8)|((with_reducible refine gate_callee (f := 15) rfl ?_);refine goesL_ (some 6) rfl rfl Try.func15 (by kernel_rfl) rfl #[.slice Ao7 y120.length co7, .slice Ao8 y123.length co8] rfl mA ?_;(with_reducible refine (diff_Distance.calls _ _ y120 _ _ y123 t126 t127 t128 _ ?side1 ?side2 ?side3 ?side4 A1.out).mono ?_);(case side1 => repeat (first|exact (Kd.R_reads' HO122.out).2.2|(with_reducible refine Kd.C_alloc ?_ _)|(with_reducible refine Kd.C_drewN ?_ _)|(with_reducible refine Kd.C_drew ?_)));(case side2 => exact (Kd.R_reads' HO122.out).2.1);(case side3 => repeat (first|exact (Kd.R_reads' HO125.out).2.2|(with_reducible refine Kd.C_alloc ?_ _)|(with_reducible refine Kd.C_drewN ?_ _)|(with_reducible refine Kd.C_drew ?_)));(case side4 => exact (Kd.R_reads' HO125.out).2.1);rintro e w9 ⟨rfl, hb⟩;refine ⟨_, rfl, ?_⟩;replace HO122 := rL HO122 hb;replace HO125 := rL HO125 hb;replace HB := sBe HB hb;(try clear hb))|((with_reducible refine gate_dst (N := 2) rfl ?_);refine bE 2 #[.int .i64 0, .int .i64 0] 24 ?_;intro gb129 hg w10 hbox hb;have BK129 := Aside0.mk (hbox);have GW129 := gBe HB hg;have GE129 := gBe HB hg;replace HO122 := rL HO122 hb;replace HO125 := rL HO125 hb;replace HB := sBe HB hb;clear hb hbox hg;have hcz11_0 := hC BK129 0 (.int .i64 0);have hcz11_1 := hC BK129 1 (.int .i64 0);have hfz11_0 := blk_frozen BK129.out 0;have hfz11_1 := blk_frozen BK129.out 1))
    go_ret
    exact ⟨rW, eB⟩
  · rw [if_neg c2] at H;have c2b0 : (t127 == 0) = false := beq_eq_false_iff_ne.mpr c2;have c2b1 : (t127 != 0) = true := bne_iff_ne.mpr c2;obtain rfl := Option.some.inj H
    go_enter Try.func16, Try.ntmps16
    go_wp2_with (first|((with_reducible refine gate_dst (N := 4) rfl ?_);refine Kd.R_lit Kd.string _ 9 ?hg (N := 4) ?hd (xs := ([(⟨#[120]⟩ : ByteArray), (⟨#[121]⟩ : ByteArray)] : List ByteArray)) (inner := [.string (⟨#[120]⟩ : ByteArray), .string (⟨#[121]⟩ : ByteArray)]) (ok := fun _ => True) (okp := fun _ => True) ?hr ?hp (fun _ hk => hk) trivial (Below.refl _ _) (Nat.le_refl _) (by simp) ?_;(case hd => rfl);(case hg => rfl);(case hr => first|(go_simp;done)|(go_simp;rfl));(case hp => exact (Reps.one (show Kd.M Kd.string _ _ _ (⟨#[120]⟩ : ByteArray) [.string (⟨#[120]⟩ : ByteArray)] from rfl) (Reps.one (show Kd.M Kd.string _ _ _ (⟨#[121]⟩ : ByteArray) [.string (⟨#[121]⟩ : ByteArray)] from rfl) (Reps.none _ _))));intro v121 w12 ho13 hb hg_ hnew_;clear hg_ hnew_;(first|rw [← Ny120.out] at ho13|(simp only [Int.reduceToNat] at ho13;rw [← Ny120.out] at ho13));have HO122 := Aside0.mk (Kd.R_lower ho13 (below_size eB));replace HB := sBe HB hb;clear hb ho13)|((with_reducible refine gate_dst (N := 5) rfl ?_);refine Kd.R_lit Kd.string _ 9 ?hg (N := 5) ?hd (xs := ([(⟨#[121]⟩ : ByteArray), (⟨#[120]⟩ : ByteArray)] : List ByteArray)) (inner := [.string (⟨#[121]⟩ : ByteArray), .string (⟨#[120]⟩ : ByteArray)]) (ok := fun _ => True) (okp := fun _ => True) ?hr ?hp (fun _ hk => hk) trivial (Below.refl _ _) (Nat.le_refl _) (by simp) ?_;(case hd => rfl);(case hg => rfl);(case hr => first|(go_simp;done)|(go_simp;rfl));(case hp => exact (Reps.one (show Kd.M Kd.string _ _ _ (⟨#[121]⟩ : ByteArray) [.string (⟨#[121]⟩ : ByteArray)] from rfl) (Reps.one (show Kd.M Kd.string _ _ _ (⟨#[120]⟩ : ByteArray) [.string (⟨#[120]⟩ : ByteArray)] from rfl) (Reps.none _ _))));intro v124 w14 ho15 hb hg_ hnew_;clear hg_ hnew_;(first|rw [← Ny123.out] at ho15|(simp only [Int.reduceToNat] at ho15;rw [← Ny123.out] at ho15));have HO125 := Aside0.mk (Kd.R_lower (Kd.R_new' ho15 (Kd.R_lt (rK HO122))) (below_size eB));replace HO122 := Aside0.mk (Kd.R_elder' (rK HO122) (Kd.R_base ho15) hb);replace HB := sBe HB hb;clear hb ho15;obtain ⟨Ao16, co16, eo16⟩ := Kd.R_slice HO122.out;subst eo16;obtain ⟨Ao17, co17, eo17⟩ := Kd.R_slice HO125.out;subst eo17)|((with_reducible refine gate_callee (f := 15) rfl ?_);refine goesL_ (some 6) rfl rfl Try.func15 (by kernel_rfl) rfl #[.slice Ao16 y120.length co16, .slice Ao17 y123.length co17] rfl mA ?_;(with_reducible refine (diff_Distance.calls _ _ y120 _ _ y123 t126 t127 t128 _ ?side1 ?side2 ?side3 ?side4 A1.out).mono ?_);(case side1 => repeat (first|exact (Kd.R_reads' HO122.out).2.2|(with_reducible refine Kd.C_alloc ?_ _)|(with_reducible refine Kd.C_drewN ?_ _)|(with_reducible refine Kd.C_drew ?_)));(case side2 => exact (Kd.R_reads' HO122.out).2.1);(case side3 => repeat (first|exact (Kd.R_reads' HO125.out).2.2|(with_reducible refine Kd.C_alloc ?_ _)|(with_reducible refine Kd.C_drewN ?_ _)|(with_reducible refine Kd.C_drew ?_)));(case side4 => exact (Kd.R_reads' HO125.out).2.1);rintro e w18 ⟨rfl, hb⟩;refine ⟨_, rfl, ?_⟩;replace HO122 := rL HO122 hb;replace HO125 := rL HO125 hb;replace HB := sBe HB hb;(try clear hb))|((with_reducible refine gate_dst (N := 2) rfl ?_);refine bE 2 #[.int .i64 0, .int .i64 0] 24 ?_;intro gb129 hg w19 hbox hb;have BK129 := Aside0.mk (hbox);have GW129 := gBe HB hg;have GE129 := gBe HB hg;replace HO122 := rL HO122 hb;replace HO125 := rL HO125 hb;replace HB := sBe HB hb;clear hb hbox hg;have hcz20_0 := hC BK129 0 (.int .i64 0);have hcz20_1 := hC BK129 1 (.int .i64 0);have hfz20_0 := blk_frozen BK129.out 0;have hfz20_1 := blk_frozen BK129.out 1))
    go_ret
    exact ⟨rW, eB⟩

/-! ### changeforgeequal_Strings_0: function 17 -/
def changeforgeequal_Strings_0.l0 : Nat → List ByteArray → List ByteArray → Int → Option (Bool)
  | 0, _, _, _ => none
  | k + 1, x0, x1, x5 => if x5 < (x0.length : Int) then (if 0 ≤ x5 then (if x5 < (x1.length : Int) then (if (rdOf ByteArray.empty x0 x5).toList = (rdOf ByteArray.empty x1 x5).toList then (changeforgeequal_Strings_0.l0 k x0 x1 (wrap64 (x5 + 1))) else (some false)) else (none)) else (none)) else (some true)
def changeforgeequal_Strings_0.f (k : Nat) (l0 : List ByteArray) (l1 : List ByteArray) : Option (Bool) := if (l0.length : Int) = (l1.length : Int) then (changeforgeequal_Strings_0.l0 k l0 l1 0) else (some false)
theorem changeforgeequal_Strings_0.mono_l : ∀ k, (∀ y0 y1 y2, LeO (changeforgeequal_Strings_0.l0 k y0 y1 y2) (changeforgeequal_Strings_0.l0 (k + 1) y0 y1 y2))
  | 0 => fun _ _ _ r h => by simp [changeforgeequal_Strings_0.l0] at h
  | k + 1 => by
    have ih0 := changeforgeequal_Strings_0.mono_l k
    · intro y0 y1 y2
      unfold changeforgeequal_Strings_0.l0
      repeat' first
      | (with_reducible exact ih0 _ _ _)
      | (with_reducible exact LeO.refl _)
      | (with_reducible exact LeO.none _)
      | (with_reducible refine LeO.ite ?_ ?_)
      | (with_reducible refine LeO.bind ?_ (fun _ => ?_))
      | exact ih0 _ _ _
      | exact LeO.none _
      | refine LeO.ite ?_ ?_
      | refine LeO.bind ?_ (fun _ => ?_)
theorem changeforgeequal_Strings_0.mono : ∀ a0 a1 k, LeO (changeforgeequal_Strings_0.f k a0 a1) (changeforgeequal_Strings_0.f (k + 1) a0 a1) := by
  intro a0 a1 k
  have ih0 := changeforgeequal_Strings_0.mono_l k
  unfold changeforgeequal_Strings_0.f
  repeat' first
      | (with_reducible exact ih0 _ _ _)
      | (with_reducible exact LeO.refl _)
      | (with_reducible exact LeO.none _)
      | (with_reducible refine LeO.ite ?_ ?_)
      | (with_reducible refine LeO.bind ?_ (fun _ => ?_))
      | exact ih0 _ _ _
      | exact LeO.none _
      | refine LeO.ite ?_ ?_
      | refine LeO.bind ?_ (fun _ => ?_)
set_option maxHeartbeats 8000000 in
set_option maxRecDepth 100000 in
theorem changeforgeequal_Strings_0.calls (k : Nat) (A0 : Option Addr) (c0 : Nat) (l0 : List ByteArray) (A1 : Option Addr) (c1 : Nat) (l1 : List ByteArray) (r : Bool) (w : World) (hr0 : Kd.C Kd.string w A0 l0.length l0) (hc0 : l0.length ≤ c0) (hr1 : Kd.C Kd.string w A1 l1.length l1) (hc1 : l1.length ≤ c1) (h : changeforgeequal_Strings_0.f k l0 l1 = some r) :
    Calls Try.prog 17 #[.slice A0 l0.length c0, .slice A1 l1.length c1] w fun e w' => e = .returned (.bool r) ∧ Drawn0 w w' := by
  have HR0 := Aside0.mk hr0;have HC0 := Aside0.mk hc0;clear hr0 hc0;have HR1 := Aside0.mk hr1;have HC1 := Aside0.mk hc1;clear hr1 hc1;have H : (if (l0.length : Int) = (l1.length : Int) then (changeforgeequal_Strings_0.l0 k l0 l1 0) else (some false)) = some r := h;clear h
  by_cases c3 : (l0.length : Int) = (l1.length : Int)
  · rw [if_pos c3] at H;have c3b0 : ((l0.length : Int) == (l1.length : Int)) = true := beq_iff_eq.mpr c3;have c3b1 : ((l0.length : Int) != (l1.length : Int)) = false := bne_eq_false_iff_eq.mpr c3;have c3b2 : (l0.length == l1.length) = true := (by first|simpa using c3|(simp at c3 ⊢;omega));clear c3;have H' := Aside0.mk H;clear H
    go_enter Try.func17, Try.ntmps17
    go_wp2
    repeat (go_quiet (fail);try go_wp2)
    go_loopg [5] k (fun kq v5 w' => ∃ (x5_1 : Int), v5 = .int .i64 x5_1 ∧ Aside0 (changeforgeequal_Strings_0.l0 kq l0 l1 x5_1 = some r) ∧ Aside0 (kq ≤ k) ∧ Drawn0 w w')
    case atStart => exact ⟨(0), (by first|rfl|(simp only [i64_w, i32_w];done)|(simp only [i64_w, i32_w];rfl)|(simp;done)|(simp [*];done)), H', ⟨Nat.le_refl _⟩, by repeat (first|exact Drawn0.refl _|apply Drawn0.step)⟩
    case round =>
      clear H'
      try clear c1
      try clear p2
      try clear c3
      try clear c3b0
      try clear c3b1
      try clear c3b2
      obtain ⟨x5_1, rfl, HA, HK1, ⟨m1, rfl⟩⟩ := hrel
      cases gk with
      | zero => exact absurd HA.out (by simp [changeforgeequal_Strings_0.l0])
      | succ k1 =>
        have H := HA.out;clear HA;simp only [changeforgeequal_Strings_0.l0] at H
        by_cases c4 : x5_1 < (l0.length : Int)
        · rw [if_pos c4] at H;have c4b0 : decide (x5_1 < (l0.length : Int)) = true := decide_eq_true c4;clear c4
          by_cases c5 : 0 ≤ x5_1
          · rw [if_pos c5] at H;have c5b0 : decide (0 ≤ x5_1) = true := decide_eq_true c5;clear c5
            by_cases c6 : x5_1 < (l1.length : Int)
            · rw [if_pos c6] at H;have c6b0 : decide (x5_1 < (l1.length : Int)) = true := decide_eq_true c6;clear c6
              by_cases c7 : (rdOf ByteArray.empty l0 x5_1).toList = (rdOf ByteArray.empty l1 x5_1).toList
              · rw [if_pos c7] at H;have c7b0 : ((rdOf ByteArray.empty l0 x5_1).toList == (rdOf ByteArray.empty l1 x5_1).toList) = true := beq_iff_eq.mpr c7;have c7b1 : ((rdOf ByteArray.empty l0 x5_1).toList != (rdOf ByteArray.empty l1 x5_1).toList) = false := bne_eq_false_iff_eq.mpr c7;clear c7;have H' := Aside0.mk H;clear H;have p130 : 0 ≤ (x5_1 : Int) := dA;have q130 : x5_1 < (l0.length : Int) := dA;obtain ⟨ad130, e130, hx130_0⟩ := Kd.at_string HR0.out x5_1 p130 q130
                cases e130
                replace p130 := eq_true p130;replace q130 := eq_true q130;have p131 : 0 ≤ (x5_1 : Int) := dA;have q131 : x5_1 < (l1.length : Int) := dA;obtain ⟨ad131, e131, hx131_0⟩ := Kd.at_string HR1.out x5_1 p131 q131
                cases e131
                replace p131 := eq_true p131;replace q131 := eq_true q131
                go_wp2
                repeat (go_quiet (fail);try go_wp2)
                go_roundg k1
                case measure => have := HK1.out;omega
                case rel => exact ⟨(wrap64 (x5_1 + 1)), (by first|rfl|(simp only [i64_w, i32_w];done)|(simp only [i64_w, i32_w];rfl)|(simp;done)|(simp [*];done)), H', ⟨by have := HK1.out;omega⟩, by repeat (first|exact Drawn0.refl _|apply Drawn0.step)⟩
              · rw [if_neg c7] at H;have c7b0 : ((rdOf ByteArray.empty l0 x5_1).toList == (rdOf ByteArray.empty l1 x5_1).toList) = false := beq_eq_false_iff_ne.mpr c7;have c7b1 : ((rdOf ByteArray.empty l0 x5_1).toList != (rdOf ByteArray.empty l1 x5_1).toList) = true := bne_iff_ne.mpr c7;obtain rfl := Option.some.inj H;have p130 : 0 ≤ (x5_1 : Int) := dA;have q130 : x5_1 < (l0.length : Int) := dA;obtain ⟨ad130, e130, hx130_0⟩ := Kd.at_string HR0.out x5_1 p130 q130
                cases e130
                replace p130 := eq_true p130;replace q130 := eq_true q130;have p131 : 0 ≤ (x5_1 : Int) := dA;have q131 : x5_1 < (l1.length : Int) := dA;obtain ⟨ad131, e131, hx131_0⟩ := Kd.at_string HR1.out x5_1 p131 q131
                cases e131
                replace p131 := eq_true p131;replace q131 := eq_true q131
                go_wp2
                repeat (go_quiet (fail);try go_wp2)
                go_ret
                exact ⟨by first|rfl|(simp;done)|(simp [*];done), by repeat (first|exact Drawn0.refl _|apply Drawn0.step)⟩
            · rw [if_neg c6] at H;exact absurd H (by simp)
          · rw [if_neg c5] at H;exact absurd H (by simp)
        · rw [if_neg c4] at H;have c4b0 : decide (x5_1 < (l0.length : Int)) = false := decide_eq_false c4;clear c4;obtain rfl := Option.some.inj H
          go_wp2
          repeat (go_quiet (fail);try go_wp2)
          go_ret
          exact ⟨by first|rfl|(simp;done)|(simp [*];done), by repeat (first|exact Drawn0.refl _|apply Drawn0.step)⟩
  · rw [if_neg c3] at H;have c3b0 : ((l0.length : Int) == (l1.length : Int)) = false := beq_eq_false_iff_ne.mpr c3;have c3b1 : ((l0.length : Int) != (l1.length : Int)) = true := bne_iff_ne.mpr c3;have c3b2 : (l0.length == l1.length) = false := (by first|simpa using c3|(simp at c3 ⊢;omega));obtain rfl := Option.some.inj H
    go_enter Try.func17, Try.ntmps17
    go_wp2
    repeat (go_quiet (fail);try go_wp2)
    go_ret
    exact ⟨by first|rfl|(simp;done)|(simp [*];done), by repeat (first|exact Drawn0.refl _|apply Drawn0.step)⟩

/-! ### changeforgeequal_Strings: function 17 -/
theorem changeforgeequal_Strings_0.loop (a b : List ByteArray) (hl : a.length = b.length) (hm : a.length ≤ 9223372036854775807) (d : Nat) : ∀ (k i : Nat), i ≤ a.length → a.length - i = d → d < k →
    changeforgeequal_Strings_0.l0 k a b (i : Int) = some (decide (a.drop i = b.drop i)) := by
  induction d with
  | zero =>
    intro k i hi hd hk
    obtain ⟨k, rfl⟩ : ∃ m, k = m + 1 := ⟨k - 1, by omega⟩
    simp only [changeforgeequal_Strings_0.l0]
    rw [if_neg (by omega), List.drop_eq_nil_of_le (by omega), List.drop_eq_nil_of_le (by omega)]
    rfl
  | succ d ih =>
    intro k i hi hd hk
    obtain ⟨k, rfl⟩ : ∃ m, k = m + 1 := ⟨k - 1, by omega⟩
    rw [rdOf_drop ByteArray.empty a i (by omega), rdOf_drop ByteArray.empty b i (by omega)]
    simp only [changeforgeequal_Strings_0.l0]
    rw [if_pos (by omega), if_pos (by omega), if_pos (by omega)]
    by_cases e : rdOf ByteArray.empty a (i : Int) = rdOf ByteArray.empty b (i : Int)
    · rw [if_pos (toList_inj.mpr e), w64 (by omega) (by omega)]
      have := ih k (i + 1) (by omega) (by omega) (by omega)
      rw [Int.natCast_add] at this
      rw [show (((1 : Nat) : Int)) = 1 from rfl] at this
      rw [this, e]
      simp
    · rw [if_neg (fun h => e (toList_inj.mp h))]
      simp [e]
def changeforgeequal_Strings.f (l0 : List ByteArray) (l1 : List ByteArray) : Option (Bool) :=  some (decide (l0 = l1))
theorem changeforgeequal_Strings.calls (A0 : Option Addr) (c0 : Nat) (l0 : List ByteArray) (A1 : Option Addr) (c1 : Nat) (l1 : List ByteArray) (r : Bool) (w : World) (hr0 : Kd.C Kd.string w A0 l0.length l0) (hc0 : l0.length ≤ c0) (hr1 : Kd.C Kd.string w A1 l1.length l1) (hc1 : l1.length ≤ c1) (h : changeforgeequal_Strings.f l0 l1 = some r) :
    Calls Try.prog 17 #[.slice A0 l0.length c0, .slice A1 l1.length c1] w fun e w' => e = .returned (.bool r) ∧ Drawn0 w w' := by
  have hm : l0.length ≤ 9223372036854775807 := hr0.2.1
  have h' : changeforgeequal_Strings_0.f (l0.length + 1) l0 l1 = some r := by
    rw [← h]
    unfold changeforgeequal_Strings_0.f changeforgeequal_Strings.f
    by_cases c : l0.length = l1.length
    · rw [if_pos (by omega)]
      have := changeforgeequal_Strings_0.loop l0 l1 c hm l0.length (l0.length + 1) 0 (by omega) (by omega) (by omega)
      simpa using this
    · rw [if_neg (by omega)]
      have : ¬ l0 = l1 := fun e => c (by rw [e])
      simp [this]
  exact (changeforgeequal_Strings_0.calls (l0.length + 1) A0 c0 l0 A1 c1 l1 r w hr0 hc0 hr1 hc1 (h'))


end Go.Proofs.Ytifkadmljokffaa.PB
