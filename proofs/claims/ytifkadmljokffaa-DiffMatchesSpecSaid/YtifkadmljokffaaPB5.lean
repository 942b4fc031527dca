/- Printed by a program of this session out of the translation: Lean functions for Go functions, and proofs that the Go functions answer the same. -/
import Derived.Test.YtifkadmljokffaaPB0
import Derived.Test.YtifkadmljokffaaPB2
import Derived.Test.YtifkadmljokffaaPB4
namespace Go.Proofs.Ytifkadmljokffaa.PB
open Go.RowKit Go.Proofs.Ytifkadmljokffaa.Pre Go.Proofs.YtifkadmljokffaaW.PrintWords Go.Proofs.YtifkadmljokffaaW.PrintLast Go.Proofs.YtifkadmljokffaaW.PrintMore
attribute [local go_sem] max2_int min2_int max_two min_two max_three min_three max_four min_four   -- for this text's walks alone
set_option linter.unusedVariables false
set_option linter.unusedSimpArgs false

/-! ### changeforgeref1_LinesFault_0: function 48 -/
mutual
def changeforgeref1_LinesFault_0.l0 : Nat → List ByteArray → Int → Option (Int × Int)
  | 0, _, _ => none
  | k + 1, x0, x3 => if x3 < (x0.length : Int) then (if 0 ≤ x3 then (if ((rdOf ByteArray.empty x0 x3).size : Int) > 80 then ((changeforgeref1_At.f 2 x3).bind fun bt137 => (some (bt137.1, bt137.2))) else (changeforgeref1_LinesFault_0.l1 k x0 x3 0)) else (none)) else (some (0, 0))
def changeforgeref1_LinesFault_0.l1 : Nat → List ByteArray → Int → Int → Option (Int × Int)
  | 0, _, _, _ => none
  | k + 1, x0, x3, x4 => if 0 ≤ x3 then (if x3 < (x0.length : Int) then (if x4 < ((rdOf ByteArray.empty x0 x3).size : Int) then (if 0 ≤ x4 then (if (bt (rdOf ByteArray.empty x0 x3) x4) = 10 then ((changeforgeref1_At.f 5 x3).bind fun bt141 => (some (bt141.1, bt141.2))) else (changeforgeref1_LinesFault_0.l1 k x0 x3 (wrap64 (x4 + 1)))) else (none)) else (changeforgeref1_LinesFault_0.l0 k x0 (wrap64 (x3 + 1)))) else (none)) else (none)
end
def changeforgeref1_LinesFault_0.f (k : Nat) (l0 : List ByteArray) : Option (Int × Int) := if (l0.length : Int) > 120 then ((changeforgeref1_At.f 2 (-1)).bind fun bt134 => (some (bt134.1, bt134.2))) else (changeforgeref1_LinesFault_0.l0 k l0 0)
theorem changeforgeref1_LinesFault_0.mono_l : ∀ k, (∀ y0 y1, LeO (changeforgeref1_LinesFault_0.l0 k y0 y1) (changeforgeref1_LinesFault_0.l0 (k + 1) y0 y1)) ∧ (∀ y0 y1 y2, LeO (changeforgeref1_LinesFault_0.l1 k y0 y1 y2) (changeforgeref1_LinesFault_0.l1 (k + 1) y0 y1 y2))
  | 0 => ⟨fun _ _ r h => by simp [changeforgeref1_LinesFault_0.l0] at h, fun _ _ _ r h => by simp [changeforgeref1_LinesFault_0.l1] at h⟩
  | k + 1 => by
    obtain ⟨ih0, ih1⟩ := changeforgeref1_LinesFault_0.mono_l k;refine ⟨?_, ?_⟩
    · intro y0 y1
      unfold changeforgeref1_LinesFault_0.l0
      repeat' first
      | (with_reducible exact ih0 _ _)
      | (with_reducible exact ih1 _ _ _)
      | (with_reducible exact LeO.refl _)
      | (with_reducible exact LeO.none _)
      | (with_reducible refine LeO.ite ?_ ?_)
      | (with_reducible refine LeO.bind ?_ (fun _ => ?_))
      | exact ih0 _ _
      | exact ih1 _ _ _
      | exact LeO.none _
      | refine LeO.ite ?_ ?_
      | refine LeO.bind ?_ (fun _ => ?_)
    · intro y0 y1 y2
      unfold changeforgeref1_LinesFault_0.l1
      repeat' first
      | (with_reducible exact ih0 _ _)
      | (with_reducible exact ih1 _ _ _)
      | (with_reducible exact LeO.refl _)
      | (with_reducible exact LeO.none _)
      | (with_reducible refine LeO.ite ?_ ?_)
      | (with_reducible refine LeO.bind ?_ (fun _ => ?_))
      | exact ih0 _ _
      | exact ih1 _ _ _
      | exact LeO.none _
      | refine LeO.ite ?_ ?_
      | refine LeO.bind ?_ (fun _ => ?_)
theorem changeforgeref1_LinesFault_0.mono : ∀ a0 k, LeO (changeforgeref1_LinesFault_0.f k a0) (changeforgeref1_LinesFault_0.f (k + 1) a0) := by
  intro a0 k
  obtain ⟨ih0, ih1⟩ := changeforgeref1_LinesFault_0.mono_l k
  unfold changeforgeref1_LinesFault_0.f
  repeat' first
      | (with_reducible exact ih0 _ _)
      | (with_reducible exact ih1 _ _ _)
      | (with_reducible exact LeO.refl _)
      | (with_reducible exact LeO.none _)
      | (with_reducible refine LeO.ite ?_ ?_)
      | (with_reducible refine LeO.bind ?_ (fun _ => ?_))
      | exact ih0 _ _
      | exact ih1 _ _ _
      | exact LeO.none _
      | refine LeO.ite ?_ ?_
      | refine LeO.bind ?_ (fun _ => ?_)
set_option maxHeartbeats 8000000 in
set_option maxRecDepth 100000 in
theorem changeforgeref1_LinesFault_0.calls (k : Nat) (A0 : Option Addr) (c0 : Nat) (l0 : List ByteArray) (r1 : Int) (r2 : Int) (w : World) (hr0 : Kd.C Kd.string w A0 l0.length l0) (hc0 : l0.length ≤ c0) (h : changeforgeref1_LinesFault_0.f k l0 = some (r1, r2)) :
    Calls Try.prog 48 #[.slice A0 l0.length c0] w fun e w' => e = .returned (.agg #[.int .i64 r1, .int .i64 r2]) ∧ Below w.heap.size w w' := by
  have hu24 := Try.underlying24;have HR0 := Aside0.mk hr0;have HC0 := Aside0.mk hc0;clear hr0 hc0;have HB := Aside0.mk (Below.refl w.heap.size w);have H : (if (l0.length : Int) > 120 then ((changeforgeref1_At.f 2 (-1)).bind fun bt134 => (some (bt134.1, bt134.2))) else (changeforgeref1_LinesFault_0.l0 k l0 0)) = some (r1, r2) := h;clear h
  by_cases c2 : (l0.length : Int) > 120
  · rw [if_pos c2] at H;have c2b0 : decide (120 < (l0.length : Int)) = true := decide_eq_true c2;have c2b1 : decide (120 < l0.length) = true := decide_eq_true (by omega);clear c2;replace H := Option.bind_eq_some_iff.mp H;obtain ⟨⟨t134, t135⟩, A30, H⟩ := H;replace H : (some (t134, t135)) = some (r1, r2) := H;have A3 := Aside0.mk A30;clear A30;simp only [Option.some.injEq, Prod.mk.injEq] at H;obtain ⟨rfl, rfl⟩ := H
    go_enter Try.func48, Try.ntmps48
    go_wp2_with (first|((with_reducible refine gate_dst (N := 2) rfl ?_);refine bE 2 #[.int .i64 0, .int .i64 0] 24 ?_;intro gb133 hg w4 hbox hb;have BK133 := Aside0.mk (hbox);have GW133 := gBe HB hg;have GE133 := gBe HB hg;replace HB := sBe HB hb;clear hb hbox hg)|((with_reducible refine gate_callee (f := 36) rfl ?_);refine goesL_ (some 8) rfl rfl Try.func36 (by kernel_rfl) rfl #[.int .i64 2, .int .i64 (-1)] rfl mA ?_;(with_reducible refine (changeforgeref1_At.calls 2 (-1) t134 t135 _ A3.out).mono ?_);rintro e w5 ⟨rfl, hb⟩;refine ⟨_, rfl, ?_⟩;replace BK133 := lJ BK133 hb;replace HB := sBe HB hb;(try clear hb);have hcz6_0 := hC BK133 0 (.int .i64 0);have hcz6_1 := hC BK133 1 (.int .i64 0);have hfz6_0 := blk_frozen BK133.out 0;have hfz6_1 := blk_frozen BK133.out 1))
    refine bodyPost_ret (results_cell_row rfl _ _ gb133 24 #[.int .i64 t134, .int .i64 t135] (0, 0) _ rfl kK Try.underlying24 rfl (by kernel_rfl)) rfl ?_;exact ⟨rW, eB⟩
  · rw [if_neg c2] at H;have c2b0 : decide (120 < (l0.length : Int)) = false := decide_eq_false c2;have c2b1 : decide (120 < l0.length) = false := decide_eq_false (by omega);clear c2;have H' := Aside0.mk H;clear H
    go_enter Try.func48, Try.ntmps48
    go_wp2_with (first|((with_reducible refine gate_dst (N := 2) rfl ?_);refine bE 2 #[.int .i64 0, .int .i64 0] 24 ?_;intro gb133 hg w7 hbox hb;have BK133 := Aside0.mk (hbox);have GW133 := gBe HB hg;have GE133 := gBe HB hg;replace HB := sBe HB hb;clear hb hbox hg))
    go_loopg [3] k (fun kq v3 w' => ∃ (x3_1 : Int) (x134000_1 : Int) (x134001_1 : Int), v3 = .int .i64 x3_1 ∧ Aside0 (changeforgeref1_LinesFault_0.l0 kq l0 x3_1 = some (r1, r2)) ∧ Aside0 (kq ≤ k) ∧ Bk w' gb133 24 #[.int .i64 x134000_1, .int .i64 x134001_1] ∧ Aside0 (Below w.heap.size w w'))
    case atStart => exact ⟨(0), (0), (0), (by first|rfl|(simp only [i64_w, i32_w];done)|(simp only [i64_w, i32_w];rfl)|(simp;done)|(simp [*];done)), H', ⟨Nat.le_refl _⟩, ⟨kK⟩, ⟨eB⟩⟩
    case round =>
      clear H'
      try clear c2
      try clear c2b0
      try clear c2b1
      try clear p2
      try clear c3
      try clear c4
      try clear hcz6_0
      try clear hcz6_1
      try clear hfz6_0
      try clear hfz6_1
      obtain ⟨x3_1, x134000_1, x134001_1, rfl, HA, HK1, BK133, HB⟩ := hrel
      cases gk with
      | zero => exact absurd HA.out (by simp [changeforgeref1_LinesFault_0.l0])
      | succ k1 =>
        have H := HA.out;clear HA;simp only [changeforgeref1_LinesFault_0.l0] at H
        by_cases c8 : x3_1 < (l0.length : Int)
        · rw [if_pos c8] at H;have c8b0 : decide (x3_1 < (l0.length : Int)) = true := decide_eq_true c8;clear c8
          by_cases c9 : 0 ≤ x3_1
          · rw [if_pos c9] at H;have c9b0 : decide (0 ≤ x3_1) = true := decide_eq_true c9;clear c9
            by_cases c10 : ((rdOf ByteArray.empty l0 x3_1).size : Int) > 80
            · rw [if_pos c10] at H;have c10b0 : decide (80 < ((rdOf ByteArray.empty l0 x3_1).size : Int)) = true := decide_eq_true c10;have c10b1 : decide (80 < (rdOf ByteArray.empty l0 x3_1).size) = true := decide_eq_true (by omega);clear c10;replace H := Option.bind_eq_some_iff.mp H;obtain ⟨⟨t137, t138⟩, A110, H⟩ := H;replace H : (some (t137, t138)) = some (r1, r2) := H;have A11 := Aside0.mk A110;clear A110;simp only [Option.some.injEq, Prod.mk.injEq] at H;obtain ⟨rfl, rfl⟩ := H;have p136 : 0 ≤ (x3_1 : Int) := dA;have q136 : x3_1 < (l0.length : Int) := dA;obtain ⟨ad136, e136, hx136_0⟩ := Kd.at_string HR0.out x3_1 p136 q136
              cases e136
              replace hx136_0 := (hX HB hx136_0:);replace p136 := eq_true p136;replace q136 := eq_true q136
              go_wp2_with (first|((with_reducible refine gate_callee (f := 36) rfl ?_);refine goesL_ (some 22) rfl rfl Try.func36 (by kernel_rfl) rfl #[.int .i64 2, .int .i64 x3_1] rfl mA ?_;(with_reducible refine (changeforgeref1_At.calls 2 x3_1 t137 t138 _ A11.out).mono ?_);rintro e w12 ⟨rfl, hb⟩;refine ⟨_, rfl, ?_⟩;replace BK133 := lJ BK133 hb;replace HB := sBe HB hb;(try clear hb);have hcz13_0 := hC BK133 0 (.int .i64 x134000_1);have hcz13_1 := hC BK133 1 (.int .i64 x134001_1);have hfz13_0 := blk_frozen BK133.out 0;have hfz13_1 := blk_frozen BK133.out 1))
              refine bodyPost_ret (results_cell_row rfl _ _ gb133 24 #[.int .i64 t137, .int .i64 t138] (0, 0) _ rfl kK Try.underlying24 rfl (by kernel_rfl)) rfl ?_;exact ⟨rW, eB⟩
            · rw [if_neg c10] at H;have c10b0 : decide (80 < ((rdOf ByteArray.empty l0 x3_1).size : Int)) = false := decide_eq_false c10;have c10b1 : decide (80 < (rdOf ByteArray.empty l0 x3_1).size) = false := decide_eq_false (by omega);clear c10;have H' := Aside0.mk H;clear H;have p136 : 0 ≤ (x3_1 : Int) := dA;have q136 : x3_1 < (l0.length : Int) := dA;obtain ⟨ad136, e136, hx136_0⟩ := Kd.at_string HR0.out x3_1 p136 q136
              cases e136
              replace hx136_0 := (hX HB hx136_0:);replace p136 := eq_true p136;replace q136 := eq_true q136
              go_wp2
              go_loopg [4] k1 (fun kq v4 w' => ∃ (x4_2 : Int) (x134000_2 : Int) (x134001_2 : Int), v4 = .int .i64 x4_2 ∧ Aside0 (changeforgeref1_LinesFault_0.l1 kq l0 x3_1 x4_2 = some (r1, r2)) ∧ Aside0 (kq ≤ k1) ∧ Bk w' gb133 24 #[.int .i64 x134000_2, .int .i64 x134001_2] ∧ Aside0 (Below w.heap.size w w'))
              case atStart => exact ⟨(0), (x134000_1), (x134001_1), (by first|rfl|(simp only [i64_w, i32_w];done)|(simp only [i64_w, i32_w];rfl)|(simp;done)|(simp [*];done)), H', ⟨Nat.le_refl _⟩, ⟨kK⟩, ⟨eB⟩⟩
              case round =>
                clear H'
                try clear c1
                try clear p1
                try clear q1
                try clear hx1
                try clear c2
                try clear c2b0
                try clear c2b1
                try clear p2
                try clear c3
                try clear c4
                try clear c8
                try clear c8b0
                try clear c9
                try clear c9b0
                try clear c10
                try clear c10b0
                try clear c10b1
                try clear p13
                try clear q13
                try clear hx13
                try clear hcz13_0
                try clear hcz13_1
                try clear hcz6_0
                try clear hcz6_1
                try clear hfz13_0
                try clear hfz13_1
                try clear hfz6_0
                try clear hfz6_1
                try clear hx136_0
                try clear p136
                try clear p2
                try clear q136
                obtain ⟨x4_2, x134000_2, x134001_2, rfl, HA, HK2, BK133, HB⟩ := hrel
                cases gk with
                | zero => exact absurd HA.out (by simp [changeforgeref1_LinesFault_0.l1])
                | succ k2 =>
                  have H := HA.out;clear HA;simp only [changeforgeref1_LinesFault_0.l1] at H
                  by_cases c14 : 0 ≤ x3_1
                  · rw [if_pos c14] at H;have c14b0 : decide (0 ≤ x3_1) = true := decide_eq_true c14;clear c14
                    by_cases c15 : x3_1 < (l0.length : Int)
                    · rw [if_pos c15] at H;have c15b0 : decide (x3_1 < (l0.length : Int)) = true := decide_eq_true c15;clear c15
                      by_cases c16 : x4_2 < ((rdOf ByteArray.empty l0 x3_1).size : Int)
                      · rw [if_pos c16] at H;have c16b0 : decide (x4_2 < ((rdOf ByteArray.empty l0 x3_1).size : Int)) = true := decide_eq_true c16;clear c16
                        by_cases c17 : 0 ≤ x4_2
                        · rw [if_pos c17] at H;have c17b0 : decide (0 ≤ x4_2) = true := decide_eq_true c17;clear c17
                          by_cases c19 : (bt (rdOf ByteArray.empty l0 x3_1) x4_2) = 10
                          · rw [if_pos c19] at H;have c19b0 : ((bt (rdOf ByteArray.empty l0 x3_1) x4_2) == 10) = true := beq_iff_eq.mpr c19;have c19b1 : ((bt (rdOf ByteArray.empty l0 x3_1) x4_2) != 10) = false := bne_eq_false_iff_eq.mpr c19;clear c19;replace H := Option.bind_eq_some_iff.mp H;obtain ⟨⟨t141, t142⟩, A200, H⟩ := H;replace H : (some (t141, t142)) = some (r1, r2) := H;have A20 := Aside0.mk A200;clear A200;simp only [Option.some.injEq, Prod.mk.injEq] at H;obtain ⟨rfl, rfl⟩ := H;have p139 : 0 ≤ (x3_1 : Int) := dA;have q139 : x3_1 < (l0.length : Int) := dA;obtain ⟨ad139, e139, hx139_0⟩ := Kd.at_string HR0.out x3_1 p139 q139;obtain rfl : ad136 = ad139 := (by injection e139);replace hx139_0 := (hX HB hx139_0:);replace p139 := eq_true p139;replace q139 := eq_true q139;have p140 : 0 ≤ (x3_1 : Int) := dA;have q140 : x3_1 < (l0.length : Int) := dA;obtain ⟨ad140, e140, hx140_0⟩ := Kd.at_string HR0.out x3_1 p140 q140;obtain rfl : ad136 = ad140 := (by injection e140);replace hx140_0 := (hX HB hx140_0:);replace p140 := eq_true p140;replace q140 := eq_true q140;have p18 : 0 ≤ (x4_2 : Int) := dA;have q18 : x4_2 < ((rdOf ByteArray.empty l0 x3_1).size : Int) := dA;have hx18 := bt_at (rdOf ByteArray.empty l0 x3_1) x4_2;replace p18 := eq_true p18;replace q18 := eq_true q18
                            go_wp2_with (first|((with_reducible refine gate_callee (f := 36) rfl ?_);refine goesL_ (some 40) rfl rfl Try.func36 (by kernel_rfl) rfl #[.int .i64 5, .int .i64 x3_1] rfl mA ?_;(with_reducible refine (changeforgeref1_At.calls 5 x3_1 t141 t142 _ A20.out).mono ?_);rintro e w21 ⟨rfl, hb⟩;refine ⟨_, rfl, ?_⟩;replace BK133 := lJ BK133 hb;replace HB := sBe HB hb;(try clear hb);have hcz22_0 := hC BK133 0 (.int .i64 x134000_2);have hcz22_1 := hC BK133 1 (.int .i64 x134001_2);have hfz22_0 := blk_frozen BK133.out 0;have hfz22_1 := blk_frozen BK133.out 1))
                            refine bodyPost_ret (results_cell_row rfl _ _ gb133 24 #[.int .i64 t141, .int .i64 t142] (0, 0) _ rfl kK Try.underlying24 rfl (by kernel_rfl)) rfl ?_;exact ⟨rW, eB⟩
                          · rw [if_neg c19] at H;have c19b0 : ((bt (rdOf ByteArray.empty l0 x3_1) x4_2) == 10) = false := beq_eq_false_iff_ne.mpr c19;have c19b1 : ((bt (rdOf ByteArray.empty l0 x3_1) x4_2) != 10) = true := bne_iff_ne.mpr c19;have H' := Aside0.mk H;clear H;have p139 : 0 ≤ (x3_1 : Int) := dA;have q139 : x3_1 < (l0.length : Int) := dA;obtain ⟨ad139, e139, hx139_0⟩ := Kd.at_string HR0.out x3_1 p139 q139;obtain rfl : ad136 = ad139 := (by injection e139);replace hx139_0 := (hX HB hx139_0:);replace p139 := eq_true p139;replace q139 := eq_true q139;have p140 : 0 ≤ (x3_1 : Int) := dA;have q140 : x3_1 < (l0.length : Int) := dA;obtain ⟨ad140, e140, hx140_0⟩ := Kd.at_string HR0.out x3_1 p140 q140;obtain rfl : ad136 = ad140 := (by injection e140);replace hx140_0 := (hX HB hx140_0:);replace p140 := eq_true p140;replace q140 := eq_true q140;have p18 : 0 ≤ (x4_2 : Int) := dA;have q18 : x4_2 < ((rdOf ByteArray.empty l0 x3_1).size : Int) := dA;have hx18 := bt_at (rdOf ByteArray.empty l0 x3_1) x4_2;replace p18 := eq_true p18;replace q18 := eq_true q18
                            go_wp2
                            go_roundg k2
                            case measure => have := HK1.out;have := HK2.out;omega
                            case rel => exact ⟨(wrap64 (x4_2 + 1)), (x134000_2), (x134001_2), (by first|rfl|(simp only [i64_w, i32_w];done)|(simp only [i64_w, i32_w];rfl)|(simp;done)|(simp [*];done)), H', ⟨by have := HK1.out;have := HK2.out;omega⟩, ⟨kK⟩, ⟨eB⟩⟩
                        · rw [if_neg c17] at H;exact absurd H (by simp)
                      · rw [if_neg c16] at H;have c16b0 : decide (x4_2 < ((rdOf ByteArray.empty l0 x3_1).size : Int)) = false := decide_eq_false c16;clear c16;have H' := Aside0.mk H;clear H;have p139 : 0 ≤ (x3_1 : Int) := dA;have q139 : x3_1 < (l0.length : Int) := dA;obtain ⟨ad139, e139, hx139_0⟩ := Kd.at_string HR0.out x3_1 p139 q139;obtain rfl : ad136 = ad139 := (by injection e139);replace hx139_0 := (hX HB hx139_0:);replace p139 := eq_true p139;replace q139 := eq_true q139
                        go_wp2
                        go_roundg k2
                        case measure => have := HK1.out;have := HK2.out;omega
                        case rel => exact ⟨(wrap64 (x3_1 + 1)), (x134000_2), (x134001_2), (by first|rfl|(simp only [i64_w, i32_w];done)|(simp only [i64_w, i32_w];rfl)|(simp;done)|(simp [*];done)), H', ⟨by have := HK1.out;have := HK2.out;omega⟩, ⟨kK⟩, ⟨eB⟩⟩
                    · rw [if_neg c15] at H;exact absurd H (by simp)
                  · rw [if_neg c14] at H;exact absurd H (by simp)
          · rw [if_neg c9] at H;exact absurd H (by simp)
        · rw [if_neg c8] at H;have c8b0 : decide (x3_1 < (l0.length : Int)) = false := decide_eq_false c8;clear c8;simp only [Option.some.injEq, Prod.mk.injEq] at H;obtain ⟨rfl, rfl⟩ := H;have hcz23_0 : wr.cell? ⟨gb133, 0, none⟩ = some (.int .i64 x134000_1) := (blk_cell BK133.out 0).trans rfl;have hcz23_1 : wr.cell? ⟨gb133, 1, none⟩ = some (.int .i64 x134001_1) := (blk_cell BK133.out 1).trans rfl;have hfz23_0 := blk_frozen BK133.out 0;have hfz23_1 := blk_frozen BK133.out 1
          go_wp2
          refine bodyPost_ret (results_cell_row rfl _ _ gb133 24 #[.int .i64 0, .int .i64 0] (0, 0) _ rfl kK Try.underlying24 rfl (by kernel_rfl)) rfl ?_;exact ⟨rW, eB⟩

/-! ### changeforgeref1_LinesFault: function 48 -/
theorem changeforgeref1_LinesFault_0.line (l : List ByteArray) (i : Nat) (hi : i < l.length) (hl : l.length ≤ 120) (hs : (rdOf ByteArray.empty l (i : Int)).size ≤ 80) (d : Nat) : ∀ (k j : Nat), j ≤ (rdOf ByteArray.empty l (i : Int)).size → (rdOf ByteArray.empty l (i : Int)).size - j = d → d < k →
    changeforgeref1_LinesFault_0.l1 k l (i : Int) (j : Int) = if ((rdOf ByteArray.empty l (i : Int)).data.toList.drop j).contains 10 = true then some (5, (i : Int)) else changeforgeref1_LinesFault_0.l0 (k - 1 - d) l ((i : Int) + 1) := by
  generalize hx : rdOf ByteArray.empty l (i : Int) = s at *
  induction d with
  | zero =>
    intro k j hj hd hk
    obtain ⟨k, rfl⟩ : ∃ m, k = m + 1 := ⟨k - 1, by omega⟩
    simp only [changeforgeref1_LinesFault_0.l1, hx]
    rw [if_pos (by omega), if_pos (by omega), if_neg (by omega), List.drop_eq_nil_of_le (by rw [data_length]; omega), w64 (by omega) (by omega)]
    simp
  | succ d ih =>
    intro k j hj hd hk
    obtain ⟨k, rfl⟩ : ∃ m, k = m + 1 := ⟨k - 1, by omega⟩
    obtain ⟨c, hc, hdr⟩ := bt_drop s j (by omega)
    simp only [changeforgeref1_LinesFault_0.l1, hx]
    rw [if_pos (by omega), if_pos (by omega), if_pos (by omega), if_pos (by omega), hc, hdr]
    by_cases e : c = 10
    · subst e
      rw [if_pos (by decide)]
      simp [changeforgeref1_At.f]
    · have e' : ¬ (c.toNat : Int) = 10 := fun h => e (by
        have : c.toNat = 10 := by omega
        exact UInt8.toNat_inj.mp (by rw [this]; rfl))
      rw [if_neg e', w64 (by omega) (by omega)]
      have := ih k (j + 1) (by omega) (by omega) (by omega)
      rw [Int.natCast_add] at this
      rw [show (((1 : Nat) : Int)) = 1 from rfl] at this
      rw [this, List.contains_cons, show ((10 : UInt8) == c) = false by simpa using fun h => e h.symm, Bool.false_or, show k + 1 - 1 - (d + 1) = k - 1 - d by omega]
theorem changeforgeref1_LinesFault_0.loop (l : List ByteArray) (hl : l.length ≤ 120) (d : Nat) : ∀ (k i : Nat), i ≤ l.length → l.length - i = d → 100 * d < k → changeforgeref1_LinesFault_0.l0 k l (i : Int) = some (faultAt (l.drop i) (i : Int)) := by
  induction d with
  | zero =>
    intro k i hi hd hk
    obtain ⟨k, rfl⟩ : ∃ m, k = m + 1 := ⟨k - 1, by omega⟩
    simp only [changeforgeref1_LinesFault_0.l0]
    rw [if_neg (by omega), List.drop_eq_nil_of_le (by omega)]
    rfl
  | succ d ih =>
    intro k i hi hd hk
    obtain ⟨k, rfl⟩ : ∃ m, k = m + 1 := ⟨k - 1, by omega⟩
    rw [rdOf_drop ByteArray.empty l i (by omega)]
    have hline := changeforgeref1_LinesFault_0.line l i (by omega) hl
    generalize hs : rdOf ByteArray.empty l (i : Int) = s at *
    simp only [changeforgeref1_LinesFault_0.l0, hs]
    rw [if_pos (by omega), if_pos (by omega)]
    simp only [faultAt]
    by_cases h1 : 80 < s.size
    · rw [if_pos (by omega), if_pos h1]
      rfl
    · rw [if_neg (by omega), if_neg h1]
      have := hline (by omega) s.size k 0 (by omega) (by omega) (by omega)
      rw [show ((0 : Nat) : Int) = 0 from rfl, List.drop_zero] at this
      rw [this]
      show (if hasNl s = true then _ else _) = _
      by_cases h2 : hasNl s = true
      · rw [if_pos h2, if_pos h2]
      · rw [if_neg h2, if_neg h2]
        have := ih (k - 1 - s.size) (i + 1) (by omega) (by omega) (by omega)
        rw [Int.natCast_add] at this
        exact this
def changeforgeref1_LinesFault.f (l0 : List ByteArray) : Option (Int × Int) :=  some (linesFault l0)
theorem changeforgeref1_LinesFault.calls (A0 : Option Addr) (c0 : Nat) (l0 : List ByteArray) (r1 : Int) (r2 : Int) (w : World) (hr0 : Kd.C Kd.string w A0 l0.length l0) (hc0 : l0.length ≤ c0) (h : changeforgeref1_LinesFault.f l0 = some (r1, r2)) :
    Calls Try.prog 48 #[.slice A0 l0.length c0] w fun e w' => e = .returned (.agg #[.int .i64 r1, .int .i64 r2]) ∧ Below w.heap.size w w' := by
  have h' : changeforgeref1_LinesFault_0.f 12001 l0 = some (r1, r2) := by
    rw [← h]
    unfold changeforgeref1_LinesFault_0.f changeforgeref1_LinesFault.f linesFault
    by_cases c : 120 < l0.length
    · rw [if_pos (by omega), if_pos c]
      rfl
    · rw [if_neg (by omega), if_neg c]
      exact changeforgeref1_LinesFault_0.loop l0 (by omega) l0.length 12001 0 (by omega) (by omega) (by omega)
  exact (changeforgeref1_LinesFault_0.calls (12001) A0 c0 l0 r1 r2 w hr0 hc0 (h'))


/-! ### changeforgeref1_LinesCode_0: function 49 -/
def changeforgeref1_LinesCode_0.f (l0 : List ByteArray) : Option (Int) := (changeforgeref1_LinesFault.f l0).bind fun bt143 => (some bt143.1)
set_option maxHeartbeats 8000000 in
set_option maxRecDepth 100000 in
theorem changeforgeref1_LinesCode_0.calls (A0 : Option Addr) (c0 : Nat) (l0 : List ByteArray) (r : Int) (w : World) (hr0 : Kd.C Kd.string w A0 l0.length l0) (hc0 : l0.length ≤ c0) (h : changeforgeref1_LinesCode_0.f l0 = some r) :
    Calls Try.prog 49 #[.slice A0 l0.length c0] w fun e w' => e = .returned (.int .i64 r) ∧ Below w.heap.size w w' := by
  have hu24 := Try.underlying24
  have HR0 := Aside0.mk hr0
  have HC0 := Aside0.mk hc0
  clear hr0 hc0
  have HB := Aside0.mk (Below.refl w.heap.size w)
  have H : ((changeforgeref1_LinesFault.f l0).bind fun bt143 => (some bt143.1)) = some r := h
  clear h
  replace H := Option.bind_eq_some_iff.mp H
  obtain ⟨⟨t143, t144⟩, A20, H⟩ := H
  replace H : (some t143) = some r := H
  have A2 := Aside0.mk A20
  clear A20
  obtain rfl := Option.some.inj H
  have hfd24_0_ := fun (a0_ a1_ : Int) (w_ : World) => (show (Instr.field 24 (.agg #[.int .i64 a0_, .int .i64 a1_]) 0).run Try.prog w_ = .ok (.int .i64 a0_) w_ by kernel_rfl)
  go_enter Try.func49, Try.ntmps49
  go_wp2_with (first | ((with_reducible refine gate_callee (f := 48) rfl ?_); refine goesL_ (some 4) rfl rfl Try.func48 (by kernel_rfl) rfl #[.slice A0 l0.length c0] rfl (by (try simp only [List.map_toArray, List.map_cons, List.map_nil]); first | done | rfl | (simp only [List.length_drop, List.length_take]; rfl)) ?_; (with_reducible refine (changeforgeref1_LinesFault.calls _ _ l0 t143 t144 _ ?side1 ?side2 A2.out).mono ?_); (case side1 => repeat (first | exact HR0.out | (with_reducible refine Kd.C_alloc ?_ _) | (with_reducible refine Kd.C_drewN ?_ _) | (with_reducible refine Kd.C_drew ?_))); (case side2 => exact HC0.out); rintro e w3 ⟨rfl, hb⟩; refine ⟨_, rfl, ?_⟩; have n0_ := Aside0.mk (below_step (by repeat (first | (with_reducible first | exact HB.out | apply below_alloc | apply pw_below_drewN | apply below_drew1) | exact HB.out)) hb); clear HB; have HB := n0_; clear n0_; (try clear hb); (try clear hb2); (try clear hk); (try clear hi)))
  go_ret
  exact ⟨by first | rfl | (simp [errW_none, errW_some] <;> rfl) | (simp [*, errW_none, errW_some] <;> rfl), by repeat (first | (with_reducible first | exact HB.out | apply below_alloc | apply pw_below_drewN | apply below_drew1) | exact HB.out)⟩

/-! ### changeforgeref1_LinesCode: function 49 -/
def changeforgeref1_LinesCode.f (l0 : List ByteArray) : Option (Int) :=  some (linesFault l0).1
theorem changeforgeref1_LinesCode.calls (A0 : Option Addr) (c0 : Nat) (l0 : List ByteArray) (r : Int) (w : World) (hr0 : Kd.C Kd.string w A0 l0.length l0) (hc0 : l0.length ≤ c0) (h : changeforgeref1_LinesCode.f l0 = some r) :
    Calls Try.prog 49 #[.slice A0 l0.length c0] w fun e w' => e = .returned (.int .i64 r) ∧ Below w.heap.size w w' := by
  have h' : changeforgeref1_LinesCode_0.f l0 = some r := h
  exact (changeforgeref1_LinesCode_0.calls A0 c0 l0 r w hr0 hc0 (h'))


/-! ### changeforgeref1_TwoFault_0: function 22 -/
def changeforgeref1_TwoFault_0.j0 : Nat → List ByteArray → Bool → Int → Int → Option (Int × Int)
  | 0, _, _, _, _ => none
  | k + 1, x1, x15, x149000, x149001 => if x15 = true then ((changeforgeref1_LinesCode.f x1).bind fun t150 => ((changeforgeref1_At.f t150 (-2)).bind fun bt151 => (some (bt151.1, bt151.2)))) else (some (x149000, x149001))
def changeforgeref1_TwoFault_0.f (k : Nat) (l0 : List ByteArray) (l1 : List ByteArray) : Option (Int × Int) := (changeforgeref1_LinesFault.f l0).bind fun bt146 => (if bt146.1 = 0 then ((changeforgeref1_LinesCode.f l1).bind fun t149 => (changeforgeref1_TwoFault_0.j0 k l1 (t149 != 0) bt146.1 bt146.2)) else (changeforgeref1_TwoFault_0.j0 k l1 false bt146.1 bt146.2))
theorem changeforgeref1_TwoFault_0.mono_l : ∀ k, (∀ y0 y1 y2 y3, LeO (changeforgeref1_TwoFault_0.j0 k y0 y1 y2 y3) (changeforgeref1_TwoFault_0.j0 (k + 1) y0 y1 y2 y3))
  | 0 => fun _ _ _ _ r h => by simp [changeforgeref1_TwoFault_0.j0] at h
  | k + 1 => by
    have ih0 := changeforgeref1_TwoFault_0.mono_l k
    · intro y0 y1 y2 y3
      unfold changeforgeref1_TwoFault_0.j0
      repeat' first
      | (with_reducible exact ih0 _ _ _ _)
      | (with_reducible exact LeO.refl _)
      | (with_reducible exact LeO.none _)
      | (with_reducible refine LeO.ite ?_ ?_)
      | (with_reducible refine LeO.bind ?_ (fun _ => ?_))
      | exact ih0 _ _ _ _
      | exact LeO.none _
      | refine LeO.ite ?_ ?_
      | refine LeO.bind ?_ (fun _ => ?_)
theorem changeforgeref1_TwoFault_0.mono : ∀ a0 a1 k, LeO (changeforgeref1_TwoFault_0.f k a0 a1) (changeforgeref1_TwoFault_0.f (k + 1) a0 a1) := by
  intro a0 a1 k
  have ih0 := changeforgeref1_TwoFault_0.mono_l k
  unfold changeforgeref1_TwoFault_0.f
  repeat' first
      | (with_reducible exact ih0 _ _ _ _)
      | (with_reducible exact LeO.refl _)
      | (with_reducible exact LeO.none _)
      | (with_reducible refine LeO.ite ?_ ?_)
      | (with_reducible refine LeO.bind ?_ (fun _ => ?_))
      | exact ih0 _ _ _ _
      | exact LeO.none _
      | refine LeO.ite ?_ ?_
      | refine LeO.bind ?_ (fun _ => ?_)
set_option maxHeartbeats 8000000 in
set_option maxRecDepth 100000 in
theorem changeforgeref1_TwoFault_0.calls (k : Nat) (A0 : Option Addr) (c0 : Nat) (l0 : List ByteArray) (A1 : Option Addr) (c1 : Nat) (l1 : List ByteArray) (r1 : Int) (r2 : Int) (w : World) (hr0 : Kd.C Kd.string w A0 l0.length l0) (hc0 : l0.length ≤ c0) (hr1 : Kd.C Kd.string w A1 l1.length l1) (hc1 : l1.length ≤ c1) (h : changeforgeref1_TwoFault_0.f k l0 l1 = some (r1, r2)) :
    Calls Try.prog 22 #[.slice A0 l0.length c0, .slice A1 l1.length c1] w fun e w' => e = .returned (.agg #[.int .i64 r1, .int .i64 r2]) ∧ Below w.heap.size w w' := by
  have hu24 := Try.underlying24;have HR0 := Aside0.mk hr0;have HC0 := Aside0.mk hc0;clear hr0 hc0;have HR1 := Aside0.mk hr1;have HC1 := Aside0.mk hc1;clear hr1 hc1;have HB := Aside0.mk (Below.refl w.heap.size w);have H : ((changeforgeref1_LinesFault.f l0).bind fun bt146 => (if bt146.1 = 0 then ((changeforgeref1_LinesCode.f l1).bind fun t149 => (changeforgeref1_TwoFault_0.j0 k l1 (t149 != 0) bt146.1 bt146.2)) else (changeforgeref1_TwoFault_0.j0 k l1 false bt146.1 bt146.2))) = some (r1, r2) := h;clear h;replace H := Option.bind_eq_some_iff.mp H;obtain ⟨⟨t146, t147⟩, A30, H⟩ := H;replace H : (if t146 = 0 then ((changeforgeref1_LinesCode.f l1).bind fun t149 => (changeforgeref1_TwoFault_0.j0 k l1 (t149 != 0) t146 t147)) else (changeforgeref1_TwoFault_0.j0 k l1 false t146 t147)) = some (r1, r2) := H;have A3 := Aside0.mk A30;clear A30;have HC4 := Aside0.mk H;clear H
  go_enter Try.func22, Try.ntmps22
  go_upto_region 2 with (first|((with_reducible refine gate_dst (N := 4) rfl ?_);refine bE 4 #[.int .i64 0, .int .i64 0] 24 ?_;intro gb145 hg w5 hbox hb;have BK145 := Aside0.mk (hbox);have GW145 := gBe HB hg;have GE145 := gBe HB hg;replace HB := sBe HB hb;clear hb hbox hg)|((with_reducible refine gate_callee (f := 48) rfl ?_);refine goesL_ (some 7) rfl rfl Try.func48 (by kernel_rfl) rfl #[.slice A0 l0.length c0] rfl mA ?_;(with_reducible refine (changeforgeref1_LinesFault.calls _ _ l0 t146 t147 _ ?side1 ?side2 A3.out).mono ?_);(case side1 => exact cBe HR0);(case side2 => exact HC0.out);rintro e w6 ⟨rfl, hb⟩;refine ⟨_, rfl, ?_⟩;replace BK145 := lJ BK145 hb;replace HB := sBe HB hb;(try clear hb))|((with_reducible refine gate_dst (N := 5) rfl ?_);refine bE 5 #[.int .i64 0, .int .i64 0] 24 ?_;intro gb148 hg w7 hbox hb;have BK148 := Aside0.mk (hbox);have GW148 := gBe HB hg;have GE148 := gBe HB hg;have NB145_148 := nL BK145 hg;have NB148_145 := nG BK145 hg;replace BK145 := lJ BK145 hb;replace HB := sBe HB hb;clear hb hbox hg;have hnb8 := eq_false NB148_145.out;have hnc8 := eq_false NB145_148.out;have hcz9_0 := hC BK148 0 (.int .i64 0);have hcz9_1 := hC BK148 1 (.int .i64 0);have hfz9_0 := blk_frozen BK148.out 0;have hfz9_1 := blk_frozen BK148.out 1))
  (try simp only [Act.put, sA, sB, sC])
  go_cut [15] (fun v15 wc => ∃ (kq : Nat) (x15_3 : Bool), v15 = .bool x15_3 ∧ Aside0 (changeforgeref1_TwoFault_0.j0 kq l1 x15_3 t146 t147 = some (r1, r2)) ∧ Aside0 (kq ≤ k) ∧ Aside0 (wc.heap[gb145]? = some (.cells #[.int .i64 0, .int .i64 0] 24 (0, 0))) ∧ Aside0 (wc.heap[gb148]? = some (.cells #[.int .i64 t146, .int .i64 t147] 24 (0, 0))) ∧ Aside0 (Below w.heap.size w wc))
  case first =>
    have H := HC4.out;clear HC4
    by_cases c10 : t146 = 0
    · rw [if_pos c10] at H;have c10b0 : (t146 == 0) = true := beq_iff_eq.mpr c10;have c10b1 : (t146 != 0) = false := bne_eq_false_iff_eq.mpr c10;clear c10
      (first|rw [c10b0]|(simp only [i64_w, i32_w];rw [c10b0])|skip)
      replace H := Option.bind_eq_some_iff.mp H;obtain ⟨t149, A110, H⟩ := H;replace H : (changeforgeref1_TwoFault_0.j0 k l1 (t149 != 0) t146 t147) = some (r1, r2) := H;have A11 := Aside0.mk A110;clear A110;have H' := Aside0.mk H;clear H;have hnb12 := eq_false NB148_145.out;have hnc12 := eq_false NB145_148.out;have hcz13_0 := hC BK148 0 (.int .i64 0);have hcz13_1 := hC BK148 1 (.int .i64 0);have hfz13_0 := blk_frozen BK148.out 0;have hfz13_1 := blk_frozen BK148.out 1
      go_wp2_with (first|(go_at_call 49;(with_reducible refine (changeforgeref1_LinesCode.calls _ _ l1 t149 _ ?side1 ?side2 A11.out).mono ?_);(case side1 => exact Kd.C_below HR1.out eB);(case side2 => exact HC1.out);rintro e w14 ⟨rfl, hb⟩;replace BK145 := lJ BK145 hb;replace BK148 := lK gb148 24 #[.int .i64 t146, .int .i64 t147] hb;replace HB := sBe HB hb;(try clear hb)))
      go_meet
      case rel => exact ⟨_, ((t149 != 0)), (by first|rfl|(simp only [i64_w, i32_w];done)|(simp only [i64_w, i32_w];rfl)|(simp;done)|(simp [*];done)), H', ⟨by first|omega|exact Nat.le_refl _⟩, ⟨kK⟩, ⟨kK⟩, ⟨eB⟩⟩
    · rw [if_neg c10] at H;have c10b0 : (t146 == 0) = false := beq_eq_false_iff_ne.mpr c10;have c10b1 : (t146 != 0) = true := bne_iff_ne.mpr c10
      (first|rw [c10b0]|(simp only [i64_w, i32_w];rw [c10b0])|skip)
      have H' := Aside0.mk H;clear H;have hnb15 := eq_false NB148_145.out;have hnc15 := eq_false NB145_148.out;have hcz16_0 := hC BK148 0 (.int .i64 0);have hcz16_1 := hC BK148 1 (.int .i64 0);have hfz16_0 := blk_frozen BK148.out 0;have hfz16_1 := blk_frozen BK148.out 1
      go_wp2
      go_meet
      case rel => exact ⟨_, (false), (by first|rfl|(simp only [i64_w, i32_w];done)|(simp only [i64_w, i32_w];rfl)|(simp;done)|(simp [*];done)), H', ⟨by first|omega|exact Nat.le_refl _⟩, ⟨kK⟩, ⟨kK⟩, ⟨eB⟩⟩
  case rest =>
    clear HC4
    try clear c1
    try clear c2
    try clear p2
    try clear c4
    try clear c8
    try clear c10
    try clear c10b0
    try clear c10b1
    try clear c12
    try clear c15
    try clear hcz13_0
    try clear hcz13_1
    try clear hcz16_0
    try clear hcz16_1
    try clear hcz9_0
    try clear hcz9_1
    try clear hfz13_0
    try clear hfz13_1
    try clear hfz16_0
    try clear hfz16_1
    try clear hfz9_0
    try clear hfz9_1
    obtain ⟨kq, x15_3, rfl, HA, HJ3, BK145, BK148, HB⟩ := hcut
    cases kq with
    | zero => exact absurd HA.out (by simp [changeforgeref1_TwoFault_0.j0])
    | succ kj3 =>
      have H := HA.out;clear HA;simp only [changeforgeref1_TwoFault_0.j0] at H
      by_cases c17 : x15_3 = true
      · subst c17;have H1 : ((changeforgeref1_LinesCode.f l1).bind fun t150 => ((changeforgeref1_At.f t150 (-2)).bind fun bt151 => (some (bt151.1, bt151.2)))) = some (r1, r2) := (by rw [if_pos rfl] at H;exact H);clear H;have H := H1;clear H1;replace H := Option.bind_eq_some_iff.mp H;obtain ⟨t150, A180, H⟩ := H;replace H : ((changeforgeref1_At.f t150 (-2)).bind fun bt151 => (some (bt151.1, bt151.2))) = some (r1, r2) := H;have A18 := Aside0.mk A180;clear A180;replace H := Option.bind_eq_some_iff.mp H;obtain ⟨⟨t151, t152⟩, A190, H⟩ := H;replace H : (some (t151, t152)) = some (r1, r2) := H;have A19 := Aside0.mk A190;clear A190;simp only [Option.some.injEq, Prod.mk.injEq] at H;obtain ⟨rfl, rfl⟩ := H
        go_wp2_with (first|((with_reducible refine gate_callee (f := 49) rfl ?_);refine goesL_ (some 17) rfl rfl Try.func49 (by kernel_rfl) rfl #[.slice A1 l1.length c1] rfl mA ?_;(with_reducible refine (changeforgeref1_LinesCode.calls _ _ l1 t150 _ ?side1 ?side2 A18.out).mono ?_);(case side1 => exact cBe HR1);(case side2 => exact HC1.out);rintro e w20 ⟨rfl, hb⟩;refine ⟨_, rfl, ?_⟩;replace BK145 := lJ BK145 hb;replace BK148 := lJ BK148 hb;replace HB := sBe HB hb;(try clear hb))|((with_reducible refine gate_callee (f := 36) rfl ?_);refine goesL_ (some 18) rfl rfl Try.func36 (by kernel_rfl) rfl #[.int .i64 t150, .int .i64 (-2)] rfl mA ?_;(with_reducible refine (changeforgeref1_At.calls t150 (-2) t151 t152 _ A19.out).mono ?_);rintro e w21 ⟨rfl, hb⟩;refine ⟨_, rfl, ?_⟩;replace BK145 := lJ BK145 hb;replace BK148 := lJ BK148 hb;replace HB := sBe HB hb;(try clear hb);have hnb22 := eq_false NB148_145.out;have hnc22 := eq_false NB145_148.out;have hcz23_0 := hC BK148 0 (.int .i64 t146);have hcz23_1 := hC BK148 1 (.int .i64 t147);have hfz23_0 := blk_frozen BK148.out 0;have hfz23_1 := blk_frozen BK148.out 1;have hcz24_0 := hC BK145 0 (.int .i64 0);have hcz24_1 := hC BK145 1 (.int .i64 0);have hfz24_0 := blk_frozen BK145.out 0;have hfz24_1 := blk_frozen BK145.out 1))
        refine bodyPost_ret (results_cell_row rfl _ _ gb145 24 #[.int .i64 t151, .int .i64 t152] (0, 0) _ rfl kK Try.underlying24 rfl (by kernel_rfl)) rfl ?_;exact ⟨rW, eB⟩
      · replace c17 := Bool.eq_false_iff.mpr c17;subst c17;have H1 : (some (t146, t147)) = some (r1, r2) := (by rw [if_neg (show ¬ (false = true) by decide)] at H;exact H);clear H;have H := H1;clear H1;simp only [Option.some.injEq, Prod.mk.injEq] at H;obtain ⟨rfl, rfl⟩ := H;have hnb25 := eq_false NB148_145.out;have hnc25 := eq_false NB145_148.out;have hcz26_0 : wc.cell? ⟨gb148, 0, none⟩ = some (.int .i64 t146) := (blk_cell BK148.out 0).trans rfl;have hcz26_1 : wc.cell? ⟨gb148, 1, none⟩ = some (.int .i64 t147) := (blk_cell BK148.out 1).trans rfl;have hfz26_0 := blk_frozen BK148.out 0;have hfz26_1 := blk_frozen BK148.out 1;have hcz27_0 : wc.cell? ⟨gb145, 0, none⟩ = some (.int .i64 0) := (blk_cell BK145.out 0).trans rfl;have hcz27_1 : wc.cell? ⟨gb145, 1, none⟩ = some (.int .i64 0) := (blk_cell BK145.out 1).trans rfl;have hfz27_0 := blk_frozen BK145.out 0;have hfz27_1 := blk_frozen BK145.out 1
        go_wp2
        refine bodyPost_ret (results_cell_row rfl _ _ gb145 24 #[.int .i64 t146, .int .i64 t147] (0, 0) _ rfl kK Try.underlying24 rfl (by kernel_rfl)) rfl ?_;exact ⟨rW, eB⟩

/-! ### changeforgeref1_TwoFault: function 22 -/
def changeforgeref1_TwoFault.f (l0 : List ByteArray) (l1 : List ByteArray) : Option (Int × Int) :=  some (twoFault l0 l1)
theorem changeforgeref1_TwoFault.calls (A0 : Option Addr) (c0 : Nat) (l0 : List ByteArray) (A1 : Option Addr) (c1 : Nat) (l1 : List ByteArray) (r1 : Int) (r2 : Int) (w : World) (hr0 : Kd.C Kd.string w A0 l0.length l0) (hc0 : l0.length ≤ c0) (hr1 : Kd.C Kd.string w A1 l1.length l1) (hc1 : l1.length ≤ c1) (h : changeforgeref1_TwoFault.f l0 l1 = some (r1, r2)) :
    Calls Try.prog 22 #[.slice A0 l0.length c0, .slice A1 l1.length c1] w fun e w' => e = .returned (.agg #[.int .i64 r1, .int .i64 r2]) ∧ Below w.heap.size w w' := by
  have h' : changeforgeref1_TwoFault_0.f 1 l0 l1 = some (r1, r2) := by
    rw [← h]
    unfold changeforgeref1_TwoFault_0.f changeforgeref1_TwoFault.f twoFault
    simp only [changeforgeref1_LinesFault.f, changeforgeref1_LinesCode.f, Option.bind_some, changeforgeref1_TwoFault_0.j0, changeforgeref1_At.f]
    rcases linesFault_or l0 with c | c
    · rw [c, if_pos rfl, if_pos rfl]
      by_cases c2 : (linesFault l1).1 = 0
      · rw [if_pos c2, c2]; rfl
      · rw [if_neg c2]
        simp [c2]
    · rw [if_neg c, if_neg (fun e => c (congrArg Prod.fst e))]
      simp
  exact (changeforgeref1_TwoFault_0.calls (1) A0 c0 l0 A1 c1 l1 r1 r2 w hr0 hc0 hr1 hc1 (h'))


/-! ### changeforgeref1_suffixes: function 50 -/
def changeforgeref1_suffixes.f (l0 : List ByteArray) (l1 : List ByteArray) : Option ((List (List Int))) :=  if l0.length ≤ 1000 ∧ l1.length ≤ 1000 then some (lcsTab l1 l0) else none
theorem changeforgeref1_suffixes_info2 : (Try.prog.info? 3).map (fun i => (i.zero, i.size, i.bytes)) = some (some (.int .i64 0), 1, 8) := by kernel_rfl
theorem changeforgeref1_suffixes_info : (Try.prog.info? 63).map (fun i => (i.zero, i.size, i.bytes)) = some (some (.slice none 0 0), 1, 24) := by kernel_rfl
section
attribute [local irreducible] wpStill
set_option maxHeartbeats 40000000 in
set_option maxRecDepth 100000 in
theorem changeforgeref1_suffixes.calls (A0 : Option Addr) (c0 : Nat) (l0 : List ByteArray) (A1 : Option Addr) (c1 : Nat) (l1 : List ByteArray) (r : List (List Int)) (w : World) (hr0 : Kd.C Kd.string w A0 l0.length l0) (hc0 : l0.length ≤ c0) (hr1 : Kd.C Kd.string w A1 l1.length l1) (hc1 : l1.length ≤ c1) (h : changeforgeref1_suffixes.f l0 l1 = some r) :
    Calls Try.prog 50 #[.slice A0 l0.length c0, .slice A1 l1.length c1] w fun e w' => ∃ v0_ : Value, e = .returned (v0_) ∧ Kd.S (Kd.slice 3 (Kd.int .i64)) 63 w' w.heap.size (fun _ => True) v0_ r ∧ Below w.heap.size w w' := by
  replace h : (if l0.length ≤ 1000 ∧ l1.length ≤ 1000 then some (lcsTab l1 l0) else none) = some r := h
  obtain ⟨⟨hm, hn⟩, hr⟩ : (l0.length ≤ 1000 ∧ l1.length ≤ 1000) ∧ lcsTab l1 l0 = r := by
    split at h
    · rename_i hs; exact ⟨hs, Option.some.inj h⟩
    · cases h
  clear h
  have HR0 := Aside0.mk hr0
  have HR1 := Aside0.mk hr1
  have HR := Aside0.mk hr
  clear hr0 hr1 hr
  go_enter Try.func50, Try.ntmps50
  go_wp2_with ((with_reducible refine gate_dst (N := 12) rfl ?_); refine Kd.S_make (Kd.slice 3 (Kd.int .i64)) _ 63 rfl (N := 12) rfl 64 _ _ rfl ((l1.length : Int) + 1) rfl rfl Try.underlying64 (.slice none 0 0) 24 changeforgeref1_suffixes_info rfl (by decide) (by omega) [] (ok := fun _ => True) (okp := fun _ => True) ⟨_, rfl, Kd.R_nil _ _ _ _ _⟩ (fun _ hk => hk) trivial (by omega) (by omega) (Below.refl _ _) (Nat.le_refl _) ?_; intro v w1 ho hb hg_ hnew_; clear hg_ hnew_; obtain ⟨g, cap, rfl, hgb, hS⟩ := tab_made l1.length l0.length ho; rw [← tabI_start l1.length l0.length (lcsFrom l1 l0 (l1.length + 1) 0)] at hS; have HS := Aside0.mk hS; have HB := Aside0.mk hb; clear ho hb hS)
  go_loopw [6] (fun v6 wr => ∃ (iN : Nat) (x6 : Int), v6 = .int .i64 x6 ∧ Aside0 (x6 = (iN : Int) - 1 ∧ iN ≤ l1.length + 1) ∧ Aside0 (Kd.S (Kd.slice 3 (Kd.int .i64)) 63 wr w.heap.size (fun _ => True) (.slice (some ⟨g, 0, none⟩) (l1.length + 1) cap) (tabI l1.length l0.length iN (lcsFrom l1 l0 iN 0))) ∧ Aside0 (Below w.heap.size w wr)) (fun v6 wr => (intOf v6 + 1).toNat)
  case atStart => exact ⟨l1.length + 1, _, rfl, ⟨by omega, Nat.le_refl _⟩, HS, HB⟩
  case round =>
    clear HS HB
    obtain ⟨iN, x6, rfl, HI, HS, HB⟩ := hrel
    obtain ⟨hi1, hi2⟩ := HI.out
    cases iN with
    | zero =>
      have hneg : x6 < 0 := by omega
      clear hi1 HI
      rw [lcsFrom_fullI, HR.out] at HS
      go_wp2
      refine bodyPost_ret (results_tmp rfl _ _ _) rfl ?_
      exact ⟨_, rfl, HS.out, HB.out⟩
    | succ j =>
      obtain rfl : x6 = (j : Int) := by omega
      clear hi1 HI
      by_cases hjl : j < l1.length
      · have hjne : ((j : Int) == (l1.length : Int)) = false := by simp; omega
        go_wp2_with ((with_reducible refine gate_dst (N := 24) rfl ?_); refine Kd.R_make (Kd.int .i64) _ 3 rfl (N := 24) rfl 63 _ _ rfl ((l0.length : Int) + 1) rfl rfl Try.underlying63 (.int .i64 0) 8 changeforgeref1_suffixes_info2 rfl (by decide) (by omega) 0 (ok := fun _ => True) (okp := fun _ => True) rfl (fun _ hk => hk) trivial (by omega) (by omega) (Below.refl _ _) (Nat.le_refl _) ?_; intro v w2 ho hb hg_ hnew_; clear hg_ hnew_; obtain ⟨g2, cap2, A, c, rfl, hcell, hfr, hs2, hb2⟩ := tab_newrow HS.out HB.out hgb hb ho j (by omega); have HS2 := Aside0.mk hs2; have HB2 := Aside0.mk hb2; clear hs2 hb2 hb ho)
        rw [lcsFrom_new] at HS2
        clear HS HB
        go_loopw [7] (fun v7 wr => ∃ (jN : Nat) (x7 : Int), v7 = .int .i64 x7 ∧ Aside0 (x7 = (jN : Int) - 1 ∧ jN ≤ l0.length) ∧ Aside0 (Kd.S (Kd.slice 3 (Kd.int .i64)) 63 wr w.heap.size (fun _ => True) (.slice (some ⟨g, 0, none⟩) (l1.length + 1) cap) (tabI l1.length l0.length j (lcsFrom l1 l0 j jN))) ∧ Aside0 (Below w.heap.size w wr)) (fun v7 wr => (intOf v7 + 1).toNat)
        case atStart => exact ⟨l0.length, _, rfl, ⟨rfl, Nat.le_refl _⟩, HS2, HB2⟩
        case round =>
          clear HS2 HB2
          obtain ⟨jN, x7, rfl, HJ, HS, HB⟩ := hrel
          obtain ⟨hj1, hj2⟩ := HJ.out
          cases jN with
          | zero =>
            have hneg : x7 < 0 := by omega
            clear hj1 HJ
            go_wp2
            go_roundw
            case rel => exact ⟨j, _, rfl, ⟨by first | rfl | omega, by omega⟩, HS, HB⟩
            case measure => simp [intOf]
          | succ i =>
              obtain rfl : x7 = (i : Int) := by omega
              clear hj1 HJ
              have hil : i < l0.length := by omega
              have b0 : (j : Int) < (l1.length : Int) + 1 := by omega
              have b2 : (i : Int) < (l0.length : Int) + 1 := by omega
              obtain ⟨ad0, e0, hx0⟩ := Kd.at_string HR0.out (i : Int) (by omega) (by omega)
              obtain ⟨ad1, e1, hx1⟩ := Kd.at_string HR1.out (j : Int) (by omega) (by omega)
              cases e0
              cases e1
              rw [Int.toNat_natCast] at hx0 hx1
              replace hx0 := (HB.out.cell (World.block_lt_of_cell? w _ hx0)).trans hx0
              replace hx1 := (HB.out.cell (World.block_lt_of_cell? w _ hx1)).trans hx1
              have hst := lcsAt_step l1 l0 j i (by omega) (by omega)
              have hle := lcsAt_mono l1 l0 j i hjl hil
              have hrg := lcsAt_range l1 l0 (j + 1) (i + 1)
              generalize rdOf ByteArray.empty l0 (i : Int) = s at *
              generalize rdOf ByteArray.empty l1 (j : Int) = t at *
              have HST := Aside0.mk hst
              clear hst
              obtain ⟨gi, ci, hci, hli, hbi, hri, hseti⟩ := tabI_get HS.out j (Nat.le_refl _) (by omega)
              obtain ⟨gk, ck, hck, hlk, hbk, hrk, _⟩ := tabI_get HS.out (j + 1) (by omega) (by omega)
              have v1 := (hrk i (by omega)).1
              have v2 := (hri (i + 1) (by omega)).1
              have v3 := (hrk (i + 1) (by omega)).1
              obtain ⟨v0, f0⟩ := hri i (by omega)
              rw [lcsFrom_at l1 l0 (by omega)] at v1 v2 v3
              have ei0 : (0 : Int) ≤ (j : Int) + 1 := by omega
              have ei1 : (j : Int) + 1 < (l1.length : Int) + 1 := by omega
              have ei2 : ((j : Int) + 1).toNat = j + 1 := by omega
              have ej0 : (0 : Int) ≤ (i : Int) + 1 := by omega
              have ej1 : (i : Int) + 1 < (l0.length : Int) + 1 := by omega
              have ej2 : ((i : Int) + 1).toNat = i + 1 := by omega
              have ei3 : IntKind.i64.wrap ((j : Int) + 1) = (j : Int) + 1 := (i64_w _).trans (w64 (by omega) (by omega))
              have ej3 : IntKind.i64.wrap ((i : Int) + 1) = (i : Int) + 1 := (i64_w _).trans (w64 (by omega) (by omega))
              by_cases c1 : lcsAt l1 l0 (j + 1) i < lcsAt l1 l0 j (i + 1)
              · by_cases c : t.toList = s.toList
                · have b1 : (s.toList == t.toList) = true := by simp [c]
                  have C := Aside0.mk c
                  clear c
                  by_cases c2 : lcsAt l1 l0 j (i + 1) < lcsAt l1 l0 (j + 1) (i + 1) + 1
                  · have hs := hseti i (lcsAt l1 l0 (j + 1) (i + 1) + 1)
                    have e : lcsAt l1 l0 j i = lcsAt l1 l0 (j + 1) (i + 1) + 1 := by have := HST.out; rw [if_pos C.out] at this; omega
                    rw [← e, lcsFrom_set, e] at hs
                    have HS' := Aside0.mk hs
                    clear hs e hri hrk hseti HST
                    generalize lcsAt l1 l0 (j + 1) i = X at *
                    generalize lcsAt l1 l0 j (i + 1) = Y at *
                    generalize lcsAt l1 l0 (j + 1) (i + 1) = Z at *
                    have ez3 : IntKind.i64.wrap (Z + 1) = Z + 1 := (i64_w _).trans (w64 (by omega) (by omega))
                    have d1 : decide (Y > X) = true := by simp; omega
                    have d1' : decide (X < Y) = true := by simp; omega
                    go_wp2_with fail
                    refine still_drew (by kernel_rfl) (by kernel_rfl) ?_
                    iterate 23 (refine still_yes (by kernel_rfl) (fun K hK => ?_); go_simp; refine hK _ ?_; clear hK K)
                    refine wpStill_nil ?_
                    go_wp2
                    go_roundw
                    case rel => exact ⟨i, _, rfl, ⟨by first | rfl | omega, by omega⟩, ⟨Kd.S_drew HS'.out⟩, ⟨(HB.out.setCell (p := ⟨gi, i, none⟩) hbi _).drew⟩⟩
                    case measure => simp [intOf]
                  · have hs := hseti i (lcsAt l1 l0 j (i + 1))
                    have e : lcsAt l1 l0 j i = lcsAt l1 l0 j (i + 1) := by have := HST.out; rw [if_pos C.out] at this; omega
                    rw [← e, lcsFrom_set, e] at hs
                    have HS' := Aside0.mk hs
                    clear hs e hri hrk hseti HST
                    generalize lcsAt l1 l0 (j + 1) i = X at *
                    generalize lcsAt l1 l0 j (i + 1) = Y at *
                    generalize lcsAt l1 l0 (j + 1) (i + 1) = Z at *
                    have ez3 : IntKind.i64.wrap (Z + 1) = Z + 1 := (i64_w _).trans (w64 (by omega) (by omega))
                    have d1 : decide (Y > X) = true := by simp; omega
                    have d1' : decide (X < Y) = true := by simp; omega
                    go_wp2_with fail
                    refine still_drew (by kernel_rfl) (by kernel_rfl) ?_
                    iterate 23 (refine still_yes (by kernel_rfl) (fun K hK => ?_); go_simp; refine hK _ ?_; clear hK K)
                    refine wpStill_nil ?_
                    go_wp2
                    go_roundw
                    case rel => exact ⟨i, _, rfl, ⟨by first | rfl | omega, by omega⟩, ⟨Kd.S_drew HS'.out⟩, ⟨(HB.out.setCell (p := ⟨gi, i, none⟩) hbi _).drew⟩⟩
                    case measure => simp [intOf]
                · have b1 : (s.toList == t.toList) = false := by simp; exact fun h_ => c (by rw [h_])
                  have C := Aside0.mk c
                  clear c
                  have hs := hseti i (lcsAt l1 l0 j (i + 1))
                  have e : lcsAt l1 l0 j i = lcsAt l1 l0 j (i + 1) := by have := HST.out; rw [if_neg C.out] at this; unfold mx at this; rw [if_pos c1] at this; exact this
                  rw [← e, lcsFrom_set, e] at hs
                  have HS' := Aside0.mk hs
                  clear hs e hri hrk hseti HST
                  generalize lcsAt l1 l0 (j + 1) i = X at *
                  generalize lcsAt l1 l0 j (i + 1) = Y at *
                  generalize lcsAt l1 l0 (j + 1) (i + 1) = Z at *
                  have ez3 : IntKind.i64.wrap (Z + 1) = Z + 1 := (i64_w _).trans (w64 (by omega) (by omega))
                  have d1 : decide (Y > X) = true := by simp; omega
                  have d1' : decide (X < Y) = true := by simp; omega
                  go_wp2_with fail
                  refine still_drew (by kernel_rfl) (by kernel_rfl) ?_
                  iterate 10 (refine still_yes (by kernel_rfl) (fun K hK => ?_); go_simp; refine hK _ ?_; clear hK K)
                  iterate 12 (refine still_no (by kernel_rfl) ?_; simp only [Act.put, List.setIfInBounds_toArray, List.set_cons_zero, List.set_cons_succ])
                  iterate 1 (refine still_yes (by kernel_rfl) (fun K hK => ?_); go_simp; refine hK _ ?_; clear hK K)
                  refine wpStill_nil ?_
                  go_wp2
                  go_roundw
                  case rel => exact ⟨i, _, rfl, ⟨by first | rfl | omega, by omega⟩, ⟨Kd.S_drew HS'.out⟩, ⟨(HB.out.setCell (p := ⟨gi, i, none⟩) hbi _).drew⟩⟩
                  case measure => simp [intOf]
              · by_cases c : t.toList = s.toList
                · have b1 : (s.toList == t.toList) = true := by simp [c]
                  have C := Aside0.mk c
                  clear c
                  by_cases c2 : lcsAt l1 l0 (j + 1) i < lcsAt l1 l0 (j + 1) (i + 1) + 1
                  · have hs := hseti i (lcsAt l1 l0 (j + 1) (i + 1) + 1)
                    have e : lcsAt l1 l0 j i = lcsAt l1 l0 (j + 1) (i + 1) + 1 := by have := HST.out; rw [if_pos C.out] at this; omega
                    rw [← e, lcsFrom_set, e] at hs
                    have HS' := Aside0.mk hs
                    clear hs e hri hrk hseti HST
                    generalize lcsAt l1 l0 (j + 1) i = X at *
                    generalize lcsAt l1 l0 j (i + 1) = Y at *
                    generalize lcsAt l1 l0 (j + 1) (i + 1) = Z at *
                    have ez3 : IntKind.i64.wrap (Z + 1) = Z + 1 := (i64_w _).trans (w64 (by omega) (by omega))
                    have d1 : decide (Y > X) = false := by simp; omega
                    have d1' : decide (X < Y) = false := by simp; omega
                    go_wp2_with fail
                    refine still_drew (by kernel_rfl) (by kernel_rfl) ?_
                    iterate 23 (refine still_yes (by kernel_rfl) (fun K hK => ?_); go_simp; refine hK _ ?_; clear hK K)
                    refine wpStill_nil ?_
                    go_wp2
                    go_roundw
                    case rel => exact ⟨i, _, rfl, ⟨by first | rfl | omega, by omega⟩, ⟨Kd.S_drew HS'.out⟩, ⟨(HB.out.setCell (p := ⟨gi, i, none⟩) hbi _).drew⟩⟩
                    case measure => simp [intOf]
                  · have hs := hseti i (lcsAt l1 l0 (j + 1) i)
                    have e : lcsAt l1 l0 j i = lcsAt l1 l0 (j + 1) i := by have := HST.out; rw [if_pos C.out] at this; omega
                    rw [← e, lcsFrom_set, e] at hs
                    have HS' := Aside0.mk hs
                    clear hs e hri hrk hseti HST
                    generalize lcsAt l1 l0 (j + 1) i = X at *
                    generalize lcsAt l1 l0 j (i + 1) = Y at *
                    generalize lcsAt l1 l0 (j + 1) (i + 1) = Z at *
                    have ez3 : IntKind.i64.wrap (Z + 1) = Z + 1 := (i64_w _).trans (w64 (by omega) (by omega))
                    have d1 : decide (Y > X) = false := by simp; omega
                    have d1' : decide (X < Y) = false := by simp; omega
                    go_wp2_with fail
                    refine still_drew (by kernel_rfl) (by kernel_rfl) ?_
                    iterate 23 (refine still_yes (by kernel_rfl) (fun K hK => ?_); go_simp; refine hK _ ?_; clear hK K)
                    refine wpStill_nil ?_
                    go_wp2
                    go_roundw
                    case rel => exact ⟨i, _, rfl, ⟨by first | rfl | omega, by omega⟩, ⟨Kd.S_drew HS'.out⟩, ⟨(HB.out.setCell (p := ⟨gi, i, none⟩) hbi _).drew⟩⟩
                    case measure => simp [intOf]
                · have b1 : (s.toList == t.toList) = false := by simp; exact fun h_ => c (by rw [h_])
                  have C := Aside0.mk c
                  clear c
                  have hs := hseti i (lcsAt l1 l0 (j + 1) i)
                  have e : lcsAt l1 l0 j i = lcsAt l1 l0 (j + 1) i := by have := HST.out; rw [if_neg C.out] at this; unfold mx at this; rw [if_neg c1] at this; exact this
                  rw [← e, lcsFrom_set, e] at hs
                  have HS' := Aside0.mk hs
                  clear hs e hri hrk hseti HST
                  generalize lcsAt l1 l0 (j + 1) i = X at *
                  generalize lcsAt l1 l0 j (i + 1) = Y at *
                  generalize lcsAt l1 l0 (j + 1) (i + 1) = Z at *
                  have ez3 : IntKind.i64.wrap (Z + 1) = Z + 1 := (i64_w _).trans (w64 (by omega) (by omega))
                  have d1 : decide (Y > X) = false := by simp; omega
                  have d1' : decide (X < Y) = false := by simp; omega
                  go_wp2_with fail
                  refine still_drew (by kernel_rfl) (by kernel_rfl) ?_
                  iterate 10 (refine still_yes (by kernel_rfl) (fun K hK => ?_); go_simp; refine hK _ ?_; clear hK K)
                  iterate 12 (refine still_no (by kernel_rfl) ?_; simp only [Act.put, List.setIfInBounds_toArray, List.set_cons_zero, List.set_cons_succ])
                  iterate 1 (refine still_yes (by kernel_rfl) (fun K hK => ?_); go_simp; refine hK _ ?_; clear hK K)
                  refine wpStill_nil ?_
                  go_wp2
                  go_roundw
                  case rel => exact ⟨i, _, rfl, ⟨by first | rfl | omega, by omega⟩, ⟨Kd.S_drew HS'.out⟩, ⟨(HB.out.setCell (p := ⟨gi, i, none⟩) hbi _).drew⟩⟩
                  case measure => simp [intOf]
      · obtain rfl : j = l1.length := by omega
        have hjne : ((l1.length : Int) == (l1.length : Int)) = true := by simp
        go_wp2_with ((with_reducible refine gate_dst (N := 24) rfl ?_); refine Kd.R_make (Kd.int .i64) _ 3 rfl (N := 24) rfl 63 _ _ rfl ((l0.length : Int) + 1) rfl rfl Try.underlying63 (.int .i64 0) 8 changeforgeref1_suffixes_info2 rfl (by decide) (by omega) 0 (ok := fun _ => True) (okp := fun _ => True) rfl (fun _ hk => hk) trivial (by omega) (by omega) (Below.refl _ _) (Nat.le_refl _) ?_; intro v w2 ho hb hg_ hnew_; clear hg_ hnew_; obtain ⟨g2, cap2, A, c, rfl, hcell, hfr, hs2, hb2⟩ := tab_newrow HS.out HB.out hgb hb ho l1.length (by omega); have HS2 := Aside0.mk hs2; have HB2 := Aside0.mk hb2; clear hs2 hb2 hb ho)
        rw [lcsFrom_new, lcsFrom_last] at HS2
        clear HS HB
        go_roundw
        case rel => exact ⟨l1.length, _, rfl, ⟨by first | rfl | omega, by omega⟩, HS2, HB2⟩
        case measure => simp [intOf]
end


/-! ### changeforgeref1_Distance: function 23 -/
def changeforgeref1_Distance.f (l0 : List ByteArray) (l1 : List ByteArray) : Option (Int) := (changeforgeref1_suffixes.f l0 l1).bind fun t153 => (if 0 < (t153.length : Int) then (if 0 < ((rd_L2 t153 0).length : Int) then (some (wrap64 ((wrap64 ((l0.length : Int) + (l1.length : Int))) - (wrap64 (2 * (rd (rd_L2 t153 0) 0)))))) else (none)) else (none))
set_option maxHeartbeats 8000000 in
set_option maxRecDepth 100000 in
theorem changeforgeref1_Distance.calls (A0 : Option Addr) (c0 : Nat) (l0 : List ByteArray) (A1 : Option Addr) (c1 : Nat) (l1 : List ByteArray) (r : Int) (w : World) (hr0 : Kd.C Kd.string w A0 l0.length l0) (hc0 : l0.length ≤ c0) (hr1 : Kd.C Kd.string w A1 l1.length l1) (hc1 : l1.length ≤ c1) (h : changeforgeref1_Distance.f l0 l1 = some r) :
    Calls Try.prog 23 #[.slice A0 l0.length c0, .slice A1 l1.length c1] w fun e w' => e = .returned (.int .i64 r) ∧ Below w.heap.size w w' := by
  have HR0 := Aside0.mk hr0;have HC0 := Aside0.mk hc0;clear hr0 hc0;have HR1 := Aside0.mk hr1;have HC1 := Aside0.mk hc1;clear hr1 hc1;have HB := Aside0.mk (Below.refl w.heap.size w);have H : ((changeforgeref1_suffixes.f l0 l1).bind fun t153 => (if 0 < (t153.length : Int) then (if 0 < ((rd_L2 t153 0).length : Int) then (some (wrap64 ((wrap64 ((l0.length : Int) + (l1.length : Int))) - (wrap64 (2 * (rd (rd_L2 t153 0) 0)))))) else (none)) else (none))) = some r := h;clear h;replace H := Option.bind_eq_some_iff.mp H;obtain ⟨t153, A30, H⟩ := H;replace H : (if 0 < (t153.length : Int) then (if 0 < ((rd_L2 t153 0).length : Int) then (some (wrap64 ((wrap64 ((l0.length : Int) + (l1.length : Int))) - (wrap64 (2 * (rd (rd_L2 t153 0) 0)))))) else (none)) else (none)) = some r := H;have A3 := Aside0.mk A30;clear A30
  by_cases c4 : 0 < (t153.length : Int)
  · rw [if_pos c4] at H;have c4b0 : decide (0 < (t153.length : Int)) = true := decide_eq_true c4;have c4b1 : decide (0 < t153.length) = true := decide_eq_true (by omega);clear c4
    by_cases c5 : 0 < ((rd_L2 t153 0).length : Int)
    · rw [if_pos c5] at H;have c5b0 : decide (0 < ((rd_L2 t153 0).length : Int)) = true := decide_eq_true c5;have c5b1 : decide (0 < (rd_L2 t153 0).length) = true := decide_eq_true (by omega);clear c5;obtain rfl := Option.some.inj H
      go_enter Try.func23, Try.ntmps23
      go_wp2_with (first|((with_reducible refine gate_callee (f := 50) rfl ?_);refine goesL_ (some 12) rfl rfl Try.func50 (by kernel_rfl) rfl #[.slice A0 l0.length c0, .slice A1 l1.length c1] rfl mA ?_;(with_reducible refine (changeforgeref1_suffixes.calls _ _ l0 _ _ l1 t153 _ ?side1 ?side2 ?side3 ?side4 A3.out).mono ?_);(case side1 => repeat (first|exact HR0.out|(with_reducible refine Kd.C_alloc ?_ _)|(with_reducible refine Kd.C_drewN ?_ _)|(with_reducible refine Kd.C_drew ?_)));(case side2 => exact HC0.out);(case side3 => repeat (first|exact HR1.out|(with_reducible refine Kd.C_alloc ?_ _)|(with_reducible refine Kd.C_drewN ?_ _)|(with_reducible refine Kd.C_drew ?_)));(case side4 => exact HC1.out);rintro e w6 ⟨v154, rfl, ho0, hb⟩;refine ⟨_, rfl, ?_⟩;have HO155 := Aside0.mk (Kd.S_lower ho0 (below_size eB));replace HB := sBe HB hb;(try clear hb ho0);obtain ⟨Ao7, co7, eo7⟩ := Kd.S_slice HO155.out;subst eo7;have p156 : 0 ≤ (0 : Int) := (by omega);have q156 : 0 < (t153.length : Int) := dA;obtain ⟨ad156, A156_0, c156_0, e156, hx156_0, hl156_0, hi156_0⟩ := at_L2 (Kd.S_reads' HO155.out).2.2 0 p156 q156;cases e156;obtain ⟨ce156, hce156, hMe156, hcc156⟩ := Kd.S_get HO155.out [] 0 p156 (by first|exact q156|exact dA|(have e_ := (Kd.S_reads' HO155.out).1;omega));obtain ⟨ve156_0, rfl, ge156_0⟩ := hMe156;have hv156_0 := hcc156 0 _ rfl;rw [Nat.add_zero, show ((Kd.slice 3 (Kd.int .i64))).sz = 1 from rfl, Nat.mul_one] at hv156_0;replace hv156_0 := Option.some.inj (hv156_0.symm.trans hx156_0);rw [hv156_0] at ge156_0;have HL156_0 := Aside0.mk (show Kd.R (Kd.int .i64) 3 _ _ _ _ (rd_L2 t153 0) from ge156_0);clear hv156_0 ge156_0;clear hcc156 hce156;have qi156 : (0 < t153.length) = True := eq_true (by omega);(try rw [show ((0 : Int)).toNat = 0 from rfl] at hx156_0);(try rw [Addr.add_zero'] at hx156_0);have HR156_0 := Aside0.mk hi156_0;have HC156_0 := Aside0.mk hl156_0;clear hi156_0 hl156_0;replace p156 := eq_true p156;replace q156 := eq_true q156;have p157 : 0 ≤ (0 : Int) := (by omega);have q157 : 0 < ((rd_L2 t153 0).length : Int) := dA;obtain ⟨ad157, e157, hx157_0⟩ := Kd.at_int (by repeat (first|(with_reducible exact HR156_0.out)|(with_reducible refine Kd.C_alloc ?_ _)|(with_reducible refine Kd.C_drewN ?_ _)|(with_reducible refine Kd.C_drew ?_)|exact HR156_0.out)) 0 p157 q157;cases e157;have qi157 : (0 < (rd_L2 t153 0).length) = True := eq_true (by omega);(try rw [show ((0 : Int)).toNat = 0 from rfl] at hx157_0);(try rw [Addr.add_zero'] at hx157_0);replace p157 := eq_true p157;replace q157 := eq_true q157))
      go_ret
      exact ⟨rW, eB⟩
    · rw [if_neg c5] at H;exact absurd H (by simp)
  · rw [if_neg c4] at H;exact absurd H (by simp)

/-! ### changeforgeequal_Patch: function 24 -/
def changeforgeequal_Patch.l0 : Nat → Int → List (S70) → List (S70) → Option (Bool)
  | 0, _, _, _ => none
  | k + 1, x5, x159000, x160000 => if x5 < (x159000.length : Int) then (if 0 ≤ x5 then (if x5 < (x160000.length : Int) then (if ((rd_T70 x159000 x5).f0) = ((rd_T70 x160000 x5).f0) then ((changeforgeequal_Strings.f ((rd_T70 x159000 x5).f1) ((rd_T70 x160000 x5).f1)).bind fun t164 => (if t164 = true then ((changeforgeequal_Strings.f ((rd_T70 x159000 x5).f2) ((rd_T70 x160000 x5).f2)).bind fun t167 => (if t167 = true then (changeforgeequal_Patch.l0 k (wrap64 (x5 + 1)) x159000 x160000) else (some false))) else (some false))) else (some false)) else (none)) else (none)) else (some true)
def changeforgeequal_Patch.f (k : Nat) (l0_0 : List (S70)) (l1_0 : List (S70)) : Option (Bool) := if (l0_0.length : Int) = (l1_0.length : Int) then (changeforgeequal_Patch.l0 k 0 l0_0 l1_0) else (some false)
theorem changeforgeequal_Patch.mono_l : ∀ k, (∀ y0 y1 y2, LeO (changeforgeequal_Patch.l0 k y0 y1 y2) (changeforgeequal_Patch.l0 (k + 1) y0 y1 y2))
  | 0 => fun _ _ _ r h => by simp [changeforgeequal_Patch.l0] at h
  | k + 1 => by
    have ih0 := changeforgeequal_Patch.mono_l k
    · intro y0 y1 y2
      unfold changeforgeequal_Patch.l0
      repeat' first
      | (with_reducible exact ih0 _ _ _)
      | (with_reducible exact LeO.refl _)
      | (with_reducible exact LeO.none _)
      | (with_reducible refine LeO.ite ?_ ?_)
      | (with_reducible refine LeO.bind ?_ (fun _ => ?_))
      | exact ih0 _ _ _
      | exact LeO.none _
      | refine LeO.ite ?_ ?_
      | refine LeO.bind ?_ (fun _ => ?_)
theorem changeforgeequal_Patch.mono : ∀ a0 a1 k, LeO (changeforgeequal_Patch.f k a0 a1) (changeforgeequal_Patch.f (k + 1) a0 a1) := by
  intro a0 a1 k
  have ih0 := changeforgeequal_Patch.mono_l k
  unfold changeforgeequal_Patch.f
  repeat' first
      | (with_reducible exact ih0 _ _ _)
      | (with_reducible exact LeO.refl _)
      | (with_reducible exact LeO.none _)
      | (with_reducible refine LeO.ite ?_ ?_)
      | (with_reducible refine LeO.bind ?_ (fun _ => ?_))
      | exact ih0 _ _ _
      | exact LeO.none _
      | refine LeO.ite ?_ ?_
      | refine LeO.bind ?_ (fun _ => ?_)
def changeforgeequal_Patch.T6 : Bool × List (List Nat × List Nat) := (true, [([], []), ([0], [0]), ([], []), ([1, 2], [1, 2]), ([3], [3]), ([4], [4]), ([], []), ([6], [6]), ([], []), ([7, 8], [7, 8]), ([9], [9]), ([10], [10]), ([5, 11], [5, 11]), ([12], [12]), ([13], [13]), ([14, 13], [13, 14]), ([13], [13]), ([15, 16, 13], [13, 15, 16]), ([17, 13], [13, 17]), ([18, 13], [13, 18]), ([13], [13]), ([20, 13], [13, 20]), ([13], [13]), ([21, 22, 13], [13, 21, 22]), ([23, 13], [13, 23]), ([24, 13], [13, 24]), ([19, 25, 13, 13], [13, 19, 25]), ([26, 13], [13, 26]), ([13, 27], [13, 27]), ([28, 26], [28]), ([29], [29]), ([30, 29], [29, 30]), ([29], [29]), ([31, 32, 29], [29, 31, 32]), ([33, 29], [29, 33]), ([34, 29], [29, 34]), ([29], [29]), ([36, 29], [29, 36]), ([29], [29]), ([37, 38, 29], [29, 37, 38]), ([39, 29], [29, 39]), ([40, 29], [29, 40]), ([35, 41, 29, 29], [29, 35, 41]), ([42, 29], [29, 42]), ([29, 43], [29, 43])])
def changeforgeequal_Patch.B6 : List Nat := [0, 1, 0, 7, 15, 31, 0, 64, 0, 448, 960, 1984, 4095, 8191, 16383, 32767, 16383, 131071, 262143, 524287, 16383, 1064959, 16383, 7356415, 15745023, 32522239, 67108863, 134217727, 268435455, 536870911, 1073741823, 2147483647, 1073741823, 8589934591, 17179869183, 34359738367, 1073741823, 69793218559, 1073741823, 482110078975, 1031865892863, 2131377520639, 4398046511103, 8796093022207, 17592186044415]
theorem changeforgeequal_Patch.tab6 : rtab .any (opsOf Try.f24 6) = changeforgeequal_Patch.T6 := by kernel_rfl
theorem changeforgeequal_Patch.bits6 : waitsOk changeforgeequal_Patch.T6.2 changeforgeequal_Patch.B6 = true := by kernel_rfl
set_option maxHeartbeats 8000000 in
set_option maxRecDepth 100000 in
theorem changeforgeequal_Patch.calls (k : Nat) (A0_0 : Option Addr) (c0_0 : Nat) (l0_0 : List (S70)) (A1_0 : Option Addr) (c1_0 : Nat) (l1_0 : List (S70)) (r : Bool) (w : World) (hr0_0 : Kd.C k70 w A0_0 l0_0.length l0_0) (hc0_0 : l0_0.length ≤ c0_0) (hr1_0 : Kd.C k70 w A1_0 l1_0.length l1_0) (hc1_0 : l1_0.length ≤ c1_0) (h : changeforgeequal_Patch.f k l0_0 l1_0 = some r) :
    Calls Try.prog 24 #[.agg #[.slice A0_0 l0_0.length c0_0], .agg #[.slice A1_0 l1_0.length c1_0]] w fun e w' => e = .returned (.bool r) ∧ Below w.heap.size w w' := by
  have hu36 := Try.underlying36;have HR0_0 := Aside0.mk hr0_0;have HC0_0 := Aside0.mk hc0_0;clear hr0_0 hc0_0;have HR1_0 := Aside0.mk hr1_0;have HC1_0 := Aside0.mk hc1_0;clear hr1_0 hc1_0;have HB := Aside0.mk (Below.refl w.heap.size w);have H : (if (l0_0.length : Int) = (l1_0.length : Int) then (changeforgeequal_Patch.l0 k 0 l0_0 l1_0) else (some false)) = some r := h;clear h
  by_cases c3 : (l0_0.length : Int) = (l1_0.length : Int)
  · rw [if_pos c3] at H;have c3b0 : ((l0_0.length : Int) == (l1_0.length : Int)) = true := beq_iff_eq.mpr c3;have c3b1 : ((l0_0.length : Int) != (l1_0.length : Int)) = false := bne_eq_false_iff_eq.mpr c3;have c3b2 : (l0_0.length == l1_0.length) = true := (by first|simpa using c3|(simp at c3 ⊢;omega));clear c3;have H' := Aside0.mk H;clear H
    go_enter Try.func24, Try.ntmps24
    go_wp2_with (first|((with_reducible refine gate_dst (N := 2) rfl ?_);refine bE 2 #[.slice A0_0 l0_0.length c0_0] 36 ?_;intro gb158 hg w4 hbox hb;have BK158 := Aside0.mk (hbox);have GW158 := gBe HB hg;have GE158 := gBe HB hg;replace HB := sBe HB hb;clear hb hbox hg)|((with_reducible refine gate_dst (N := 3) rfl ?_);refine bE 3 #[.slice A1_0 l1_0.length c1_0] 36 ?_;intro gb159 hg w5 hbox hb;have BK159 := Aside0.mk (hbox);have GW159 := gBe HB hg;have GE159 := gBe HB hg;have NB158_159 := nL BK158 hg;have NB159_158 := nG BK158 hg;replace BK158 := lJ BK158 hb;replace HB := sBe HB hb;clear hb hbox hg;have hnb6 := eq_false NB158_159.out;have hnc6 := eq_false NB159_158.out;have hcz7_0 := hC BK158 0 (.slice A0_0 l0_0.length c0_0);have hfz7_0 := blk_frozen BK158.out 0;have hcz8_0 := hC BK159 0 (.slice A1_0 l1_0.length c1_0);have hfz8_0 := blk_frozen BK159.out 0))
    go_loopg [5] k (fun kq v5 w' => ∃ (x5_1 : Int), v5 = .int .i64 x5_1 ∧ Aside0 (changeforgeequal_Patch.l0 kq x5_1 l0_0 l1_0 = some r) ∧ Aside0 (kq ≤ k) ∧ Bk w' gb158 36 #[(.slice A0_0 l0_0.length c0_0)] ∧ Bk w' gb159 36 #[(.slice A1_0 l1_0.length c1_0)] ∧ Aside0 (Below w.heap.size w w'))
    case atStart => exact ⟨(0), (by first|rfl|(simp only [i64_w, i32_w];done)|(simp only [i64_w, i32_w];rfl)|(simp;done)|(simp [*];done)), H', ⟨Nat.le_refl _⟩, ⟨kK⟩, ⟨kK⟩, ⟨eB⟩⟩
    case round =>
      clear H'
      try clear c1
      try clear c2
      try clear p2
      try clear c3
      try clear c3b0
      try clear c3b1
      try clear c3b2
      try clear c6
      try clear hcz7_0
      try clear hcz8_0
      try clear hfz7_0
      try clear hfz8_0
      obtain ⟨x5_1, rfl, HA, HK1, BK158, BK159, HB⟩ := hrel
      cases gk with
      | zero => exact absurd HA.out (by simp [changeforgeequal_Patch.l0])
      | succ k1 =>
        have H := HA.out;clear HA;simp only [changeforgeequal_Patch.l0] at H
        by_cases c9 : x5_1 < (l0_0.length : Int)
        · rw [if_pos c9] at H;have c9b0 : decide (x5_1 < (l0_0.length : Int)) = true := decide_eq_true c9;clear c9
          by_cases c10 : 0 ≤ x5_1
          · rw [if_pos c10] at H;have c10b0 : decide (0 ≤ x5_1) = true := decide_eq_true c10;clear c10
            by_cases c11 : x5_1 < (l1_0.length : Int)
            · rw [if_pos c11] at H;have c11b0 : decide (x5_1 < (l1_0.length : Int)) = true := decide_eq_true c11;clear c11
              by_cases c12 : ((rd_T70 l0_0 x5_1).f0) = ((rd_T70 l1_0 x5_1).f0)
              · rw [if_pos c12] at H;have c12b0 : (((rd_T70 l0_0 x5_1).f0) == ((rd_T70 l1_0 x5_1).f0)) = true := beq_iff_eq.mpr c12;have c12b1 : (((rd_T70 l0_0 x5_1).f0) != ((rd_T70 l1_0 x5_1).f0)) = false := bne_eq_false_iff_eq.mpr c12;clear c12;replace H := Option.bind_eq_some_iff.mp H;obtain ⟨t164, A130, H⟩ := H;replace H : (if t164 = true then ((changeforgeequal_Strings.f ((rd_T70 l0_0 x5_1).f2) ((rd_T70 l1_0 x5_1).f2)).bind fun t167 => (if t167 = true then (changeforgeequal_Patch.l0 k1 (wrap64 (x5_1 + 1)) l0_0 l1_0) else (some false))) else (some false)) = some r := H;have A13 := Aside0.mk A130;clear A130
                by_cases c14 : t164 = true
                · subst c14;have H1 : ((changeforgeequal_Strings.f ((rd_T70 l0_0 x5_1).f2) ((rd_T70 l1_0 x5_1).f2)).bind fun t167 => (if t167 = true then (changeforgeequal_Patch.l0 k1 (wrap64 (x5_1 + 1)) l0_0 l1_0) else (some false))) = some r := (by rw [if_pos rfl] at H;exact H);clear H;have H := H1;clear H1;replace H := Option.bind_eq_some_iff.mp H;obtain ⟨t167, A150, H⟩ := H;replace H : (if t167 = true then (changeforgeequal_Patch.l0 k1 (wrap64 (x5_1 + 1)) l0_0 l1_0) else (some false)) = some r := H;have A15 := Aside0.mk A150;clear A150
                  by_cases c16 : t167 = true
                  · subst c16;have H1 : (changeforgeequal_Patch.l0 k1 (wrap64 (x5_1 + 1)) l0_0 l1_0) = some r := (by rw [if_pos rfl] at H;exact H);clear H;have H := H1;clear H1;have H' := Aside0.mk H;clear H;have hnb17 := eq_false NB158_159.out;have hnc17 := eq_false NB159_158.out;have hcz18_0 : wr.cell? ⟨gb158, 0, none⟩ = some (.slice A0_0 l0_0.length c0_0) := (blk_cell BK158.out 0).trans rfl;have hfz18_0 := blk_frozen BK158.out 0
                    try go_wp2
                    replace BK158 := Aside0.mk (blk_drew BK158.out);replace BK159 := Aside0.mk (blk_drew BK159.out);replace HB := Aside0.mk (below_drew1 HB.out);have p160 : 0 ≤ (x5_1 : Int) := dA;have q160 : x5_1 < (l0_0.length : Int) := dA;obtain ⟨ad160, A160_1, c160_1, A160_2, c160_2, e160, hx160_0, hx160_1, hx160_2, hl160_1, hi160_1, hl160_2, hi160_2⟩ := at_T70 HR0_0.out x5_1 p160 q160;have hw160_2 := hx160_2;have hw160_1 := hx160_1;have hw160_0 := hx160_0
                    cases e160
                    replace hx160_0 := (hX HB hx160_0:);replace hx160_1 := (hX HB hx160_1:);replace hx160_2 := (hX HB hx160_2:);have HR160_1 := Aside0.mk hi160_1;have HC160_1 := Aside0.mk hl160_1;clear hi160_1 hl160_1;have HR160_2 := Aside0.mk hi160_2;have HC160_2 := Aside0.mk hl160_2;clear hi160_2 hl160_2;replace p160 := eq_true p160;replace q160 := eq_true q160;have p161 : 0 ≤ (x5_1 : Int) := dA;have q161 : x5_1 < (l1_0.length : Int) := dA;obtain ⟨ad161, A161_1, c161_1, A161_2, c161_2, e161, hx161_0, hx161_1, hx161_2, hl161_1, hi161_1, hl161_2, hi161_2⟩ := at_T70 HR1_0.out x5_1 p161 q161;have hw161_2 := hx161_2;have hw161_1 := hx161_1;have hw161_0 := hx161_0
                    cases e161
                    replace hx161_0 := (hX HB hx161_0:);replace hx161_1 := (hX HB hx161_1:);replace hx161_2 := (hX HB hx161_2:);have HR161_1 := Aside0.mk hi161_1;have HC161_1 := Aside0.mk hl161_1;clear hi161_1 hl161_1;have HR161_2 := Aside0.mk hi161_2;have HC161_2 := Aside0.mk hl161_2;clear hi161_2 hl161_2;replace p161 := eq_true p161;replace q161 := eq_true q161;have p162 : 0 ≤ (x5_1 : Int) := dA;have q162 : x5_1 < (l0_0.length : Int) := dA;obtain ⟨ad162, A162_1, c162_1, A162_2, c162_2, e162, hx162_0, hx162_1, hx162_2, hl162_1, hi162_1, hl162_2, hi162_2⟩ := at_T70 HR0_0.out x5_1 p162 q162;have hw162_2 := hx162_2;have hw162_1 := hx162_1;have hw162_0 := hx162_0;obtain rfl : ad160 = ad162 := (by injection e162);replace hx162_0 := (hX HB hx162_0:);replace hx162_1 := (hX HB hx162_1:);replace hx162_2 := (hX HB hx162_2:);have HR162_1 := Aside0.mk hi162_1;have HC162_1 := Aside0.mk hl162_1;clear hi162_1 hl162_1;have HR162_2 := Aside0.mk hi162_2;have HC162_2 := Aside0.mk hl162_2;clear hi162_2 hl162_2;replace p162 := eq_true p162;replace q162 := eq_true q162;have ea_ := Option.some.inj (hx160_1.symm.trans hx162_1);injection ea_ with ea_ en_ ec_;subst ea_;subst ec_;clear en_;have ea_ := Option.some.inj (hx160_2.symm.trans hx162_2);injection ea_ with ea_ en_ ec_;subst ea_;subst ec_;clear en_;have p163 : 0 ≤ (x5_1 : Int) := dA;have q163 : x5_1 < (l1_0.length : Int) := dA;obtain ⟨ad163, A163_1, c163_1, A163_2, c163_2, e163, hx163_0, hx163_1, hx163_2, hl163_1, hi163_1, hl163_2, hi163_2⟩ := at_T70 HR1_0.out x5_1 p163 q163;have hw163_2 := hx163_2;have hw163_1 := hx163_1;have hw163_0 := hx163_0;obtain rfl : ad161 = ad163 := (by injection e163);replace hx163_0 := (hX HB hx163_0:);replace hx163_1 := (hX HB hx163_1:);replace hx163_2 := (hX HB hx163_2:);have HR163_1 := Aside0.mk hi163_1;have HC163_1 := Aside0.mk hl163_1;clear hi163_1 hl163_1;have HR163_2 := Aside0.mk hi163_2;have HC163_2 := Aside0.mk hl163_2;clear hi163_2 hl163_2;replace p163 := eq_true p163;replace q163 := eq_true q163;have ea_ := Option.some.inj (hx161_1.symm.trans hx163_1);injection ea_ with ea_ en_ ec_;subst ea_;subst ec_;clear en_;have ea_ := Option.some.inj (hx161_2.symm.trans hx163_2);injection ea_ with ea_ en_ ec_;subst ea_;subst ec_;clear en_;have p165 : 0 ≤ (x5_1 : Int) := dA;have q165 : x5_1 < (l0_0.length : Int) := dA;obtain ⟨ad165, A165_1, c165_1, A165_2, c165_2, e165, hx165_0, hx165_1, hx165_2, hl165_1, hi165_1, hl165_2, hi165_2⟩ := at_T70 HR0_0.out x5_1 p165 q165;have hw165_2 := hx165_2;have hw165_1 := hx165_1;have hw165_0 := hx165_0;obtain rfl : ad160 = ad165 := (by injection e165);replace hx165_0 := (hX HB hx165_0:);replace hx165_1 := (hX HB hx165_1:);replace hx165_2 := (hX HB hx165_2:);have HR165_1 := Aside0.mk hi165_1;have HC165_1 := Aside0.mk hl165_1;clear hi165_1 hl165_1;have HR165_2 := Aside0.mk hi165_2;have HC165_2 := Aside0.mk hl165_2;clear hi165_2 hl165_2;replace p165 := eq_true p165;replace q165 := eq_true q165;have ea_ := Option.some.inj (hx160_1.symm.trans hx165_1);injection ea_ with ea_ en_ ec_;subst ea_;subst ec_;clear en_;have ea_ := Option.some.inj (hx160_2.symm.trans hx165_2);injection ea_ with ea_ en_ ec_;subst ea_;subst ec_;clear en_;have p166 : 0 ≤ (x5_1 : Int) := dA;have q166 : x5_1 < (l1_0.length : Int) := dA;obtain ⟨ad166, A166_1, c166_1, A166_2, c166_2, e166, hx166_0, hx166_1, hx166_2, hl166_1, hi166_1, hl166_2, hi166_2⟩ := at_T70 HR1_0.out x5_1 p166 q166;have hw166_2 := hx166_2;have hw166_1 := hx166_1;have hw166_0 := hx166_0;obtain rfl : ad161 = ad166 := (by injection e166);replace hx166_0 := (hX HB hx166_0:);replace hx166_1 := (hX HB hx166_1:);replace hx166_2 := (hX HB hx166_2:);have HR166_1 := Aside0.mk hi166_1;have HC166_1 := Aside0.mk hl166_1;clear hi166_1 hl166_1;have HR166_2 := Aside0.mk hi166_2;have HC166_2 := Aside0.mk hl166_2;clear hi166_2 hl166_2;replace p166 := eq_true p166;replace q166 := eq_true q166;have ea_ := Option.some.inj (hx161_1.symm.trans hx166_1);injection ea_ with ea_ en_ ec_;subst ea_;subst ec_;clear en_;have ea_ := Option.some.inj (hx161_2.symm.trans hx166_2);injection ea_ with ea_ en_ ec_;subst ea_;subst ec_;clear en_;refine start_ (n := 45) (S := fun w' => w'.cell? ⟨gb158, 0, none⟩ = some (.slice (some ad160) l0_0.length c0_0) ∧ w'.cell? ⟨gb159, 0, none⟩ = some (.slice (some ad161) l1_0.length c1_0) ∧ w'.cell? (ad160.add ((x5_1).toNat * 3)) = some (.int .i64 ((rd_T70 l0_0 x5_1).f0)) ∧ w'.cell? ⟨(ad160.add ((x5_1).toNat * 3)).block, (ad160.add ((x5_1).toNat * 3)).off + 1, none⟩ = some (.slice A160_1 ((rd_T70 l0_0 x5_1).f1).length c160_1) ∧ w'.cell? ⟨(ad160.add ((x5_1).toNat * 3)).block, (ad160.add ((x5_1).toNat * 3)).off + 2, none⟩ = some (.slice A160_2 ((rd_T70 l0_0 x5_1).f2).length c160_2) ∧ w'.cell? (ad161.add ((x5_1).toNat * 3)) = some (.int .i64 ((rd_T70 l1_0 x5_1).f0)) ∧ w'.cell? ⟨(ad161.add ((x5_1).toNat * 3)).block, (ad161.add ((x5_1).toNat * 3)).off + 1, none⟩ = some (.slice A161_1 ((rd_T70 l1_0 x5_1).f1).length c161_1) ∧ w'.cell? ⟨(ad161.add ((x5_1).toNat * 3)).block, (ad161.add ((x5_1).toNat * 3)).off + 2, none⟩ = some (.slice A161_2 ((rd_T70 l1_0 x5_1).f2).length c161_2) ∧ w'.cell? (ad160.add ((x5_1).toNat * 3)) = some (.int .i64 ((rd_T70 l0_0 x5_1).f0)) ∧ w'.cell? ⟨(ad160.add ((x5_1).toNat * 3)).block, (ad160.add ((x5_1).toNat * 3)).off + 1, none⟩ = some (.slice A160_1 ((rd_T70 l0_0 x5_1).f1).length c160_1) ∧ w'.cell? ⟨(ad160.add ((x5_1).toNat * 3)).block, (ad160.add ((x5_1).toNat * 3)).off + 2, none⟩ = some (.slice A160_2 ((rd_T70 l0_0 x5_1).f2).length c160_2) ∧ w'.cell? (ad161.add ((x5_1).toNat * 3)) = some (.int .i64 ((rd_T70 l1_0 x5_1).f0)) ∧ w'.cell? ⟨(ad161.add ((x5_1).toNat * 3)).block, (ad161.add ((x5_1).toNat * 3)).off + 1, none⟩ = some (.slice A161_1 ((rd_T70 l1_0 x5_1).f1).length c161_1) ∧ w'.cell? ⟨(ad161.add ((x5_1).toNat * 3)).block, (ad161.add ((x5_1).toNat * 3)).off + 2, none⟩ = some (.slice A161_2 ((rd_T70 l1_0 x5_1).f2).length c161_2) ∧ w'.cell? (ad160.add ((x5_1).toNat * 3)) = some (.int .i64 ((rd_T70 l0_0 x5_1).f0)) ∧ w'.cell? ⟨(ad160.add ((x5_1).toNat * 3)).block, (ad160.add ((x5_1).toNat * 3)).off + 1, none⟩ = some (.slice A160_1 ((rd_T70 l0_0 x5_1).f1).length c160_1) ∧ w'.cell? ⟨(ad160.add ((x5_1).toNat * 3)).block, (ad160.add ((x5_1).toNat * 3)).off + 2, none⟩ = some (.slice A160_2 ((rd_T70 l0_0 x5_1).f2).length c160_2) ∧ w'.cell? (ad161.add ((x5_1).toNat * 3)) = some (.int .i64 ((rd_T70 l1_0 x5_1).f0)) ∧ w'.cell? ⟨(ad161.add ((x5_1).toNat * 3)).block, (ad161.add ((x5_1).toNat * 3)).off + 1, none⟩ = some (.slice A161_1 ((rd_T70 l1_0 x5_1).f1).length c161_1) ∧ w'.cell? ⟨(ad161.add ((x5_1).toNat * 3)).block, (ad161.add ((x5_1).toNat * 3)).off + 2, none⟩ = some (.slice A161_2 ((rd_T70 l1_0 x5_1).f2).length c161_2)) (ds := []) (mb 45 0) (by kernel_rfl) rfl (by kernel_rfl) ⟨(blk_cell BK158.out 0).trans rfl, (blk_cell BK159.out 0).trans rfl, (hX HB hw160_0:), (hX HB hw160_1:), (hX HB hw160_2:), (hX HB hw161_0:), (hX HB hw161_1:), (hX HB hw161_2:), (hX HB hw162_0:), (hX HB hw162_1:), (hX HB hw162_2:), (hX HB hw163_0:), (hX HB hw163_1:), (hX HB hw163_2:), (hX HB hw165_0:), (hX HB hw165_1:), (hX HB hw165_2:), (hX HB hw166_0:), (hX HB hw166_1:), (hX HB hw166_2:)⟩ (fun hHeld => ?_);refine with_tabW changeforgeequal_Patch.tab6 changeforgeequal_Patch.bits6 (fun HT_ HW_ => ?_);generalize wr.drew = w19 at BK158 BK159 HB HR160_1 HR160_2 HR161_1 HR161_2 HR162_1 HR162_2 HR163_1 HR163_2 HR165_1 HR165_2 HR166_1 HR166_2 hx160_0 hx160_1 hx160_2 hx161_0 hx161_1 hx161_2 hx162_0 hx162_1 hx162_2 hx163_0 hx163_1 hx163_2 hx165_0 hx165_1 hx165_2 hx166_0 hx166_1 hx166_2 hHeld ⊢;refine pA 0 20 (mb 45 1) HT_ rfl rfl ?_;refine pA 2 22 (mb 45 5) HT_ rfl rfl ?_;refine pA 6 26 (mb 45 69) HT_ rfl rfl ?_;refine pA 8 28 (mb 45 325) HT_ rfl rfl ?_;refine tA 1 21 (mb 45 327) HT_ HW_ hHeld rfl rfl (by rintro w' ⟨s0, s1, s2, s3, s4, s5, s6, s7, s8, s9, s10, s11, s12, s13, s14, s15, s16, s17, s18, s19⟩;go_simp;with_reducible rfl) ?_;refine pA 3 23 (mb 45 335) HT_ rfl rfl ?_;refine pA 4 24 (mb 45 351) HT_ rfl rfl ?_;refine tA 5 25 (mb 45 383) HT_ HW_ hHeld rfl rfl (by rintro w' ⟨s0, s1, s2, s3, s4, s5, s6, s7, s8, s9, s10, s11, s12, s13, s14, s15, s16, s17, s18, s19⟩;go_simp;with_reducible rfl) ?_;refine tA 7 27 (mb 45 511) HT_ HW_ hHeld rfl rfl (by rintro w' ⟨s0, s1, s2, s3, s4, s5, s6, s7, s8, s9, s10, s11, s12, s13, s14, s15, s16, s17, s18, s19⟩;go_simp;with_reducible rfl) ?_;refine pA 9 29 (mb 45 1023) HT_ rfl rfl ?_;refine pA 10 30 (mb 45 2047) HT_ rfl rfl ?_;refine tA 11 31 (mb 45 4095) HT_ HW_ hHeld rfl rfl (by rintro w' ⟨s0, s1, s2, s3, s4, s5, s6, s7, s8, s9, s10, s11, s12, s13, s14, s15, s16, s17, s18, s19⟩;go_simp;with_reducible rfl) ?_;refine pA 12 32 (mb 45 8191) HT_ rfl rfl ?_;refine pA 13 33 (mb 45 16383) HT_ rfl rfl ?_;refine pA 14 34 (mb 45 32767) HT_ rfl rfl ?_;refine pA 16 36 (mb 45 98303) HT_ rfl rfl ?_;refine pA 20 40 (mb 45 1146879) HT_ rfl rfl ?_;refine pA 22 42 (mb 45 5341183) HT_ rfl rfl ?_;refine tA 15 35 (mb 45 5373951) HT_ HW_ hHeld rfl rfl (by rintro w' ⟨s0, s1, s2, s3, s4, s5, s6, s7, s8, s9, s10, s11, s12, s13, s14, s15, s16, s17, s18, s19⟩;go_simp;with_reducible rfl) ?_;refine pA 17 37 (mb 45 5505023) HT_ rfl rfl ?_;refine pA 18 38 (mb 45 5767167) HT_ rfl rfl ?_;refine tA 19 39 (mb 45 6291455) HT_ HW_ hHeld rfl rfl (by rintro w' ⟨s0, s1, s2, s3, s4, s5, s6, s7, s8, s9, s10, s11, s12, s13, s14, s15, s16, s17, s18, s19⟩;go_simp;with_reducible rfl) ?_;refine tA 21 41 (mb 45 8388607) HT_ HW_ hHeld rfl rfl (by rintro w' ⟨s0, s1, s2, s3, s4, s5, s6, s7, s8, s9, s10, s11, s12, s13, s14, s15, s16, s17, s18, s19⟩;go_simp;with_reducible rfl) ?_;refine pA 23 43 (mb 45 16777215) HT_ rfl rfl ?_;refine pA 24 44 (mb 45 33554431) HT_ rfl rfl ?_;refine tA 25 45 (mb 45 67108863) HT_ HW_ hHeld rfl rfl (by rintro w' ⟨s0, s1, s2, s3, s4, s5, s6, s7, s8, s9, s10, s11, s12, s13, s14, s15, s16, s17, s18, s19⟩;go_simp;with_reducible rfl) ?_;refine one_ (i := 26) (N := some 46) (mb 45 134217727) rfl rfl (one_of HT_.out (by kernel_rfl)) (by decide) (fun K hK => ?_);refine goes_ Try.func17 (by kernel_rfl) rfl #[.slice A160_1 ((rd_T70 l0_0 x5_1).f1).length c160_1, .slice A161_1 ((rd_T70 l1_0 x5_1).f1).length c161_1] (by rfl) rfl rfl mA ?_
                    with_reducible refine (changeforgeequal_Strings.calls _ _ ((rd_T70 l0_0 x5_1).f1) _ _ ((rd_T70 l1_0 x5_1).f1) true _ ?side1 ?side2 ?side3 ?side4 A13.out).mono ?_
                    (case side1 => exact cBe HR162_1);(case side2 => exact HC162_1.out);(case side3 => exact cBe HR163_1);(case side4 => exact HC163_1.out)
                    rintro e w' ⟨rfl, ⟨nd, rfl⟩⟩
                    refine ⟨_, rfl, ?_⟩;refine hK.out _ _ ⟨(blk_cell BK158.out 0).trans rfl, (blk_cell BK159.out 0).trans rfl, (hX HB hw160_0:), (hX HB hw160_1:), (hX HB hw160_2:), (hX HB hw161_0:), (hX HB hw161_1:), (hX HB hw161_2:), (hX HB hw162_0:), (hX HB hw162_1:), (hX HB hw162_2:), (hX HB hw163_0:), (hX HB hw163_1:), (hX HB hw163_2:), (hX HB hw165_0:), (hX HB hw165_1:), (hX HB hw165_2:), (hX HB hw166_0:), (hX HB hw166_1:), (hX HB hw166_2:)⟩ (fun hHeld => ?_);clear hK K;refine nmA (some 46) ?_;refine pA 27 47 (mb 45 268435455) HT_ rfl rfl ?_;refine pA 28 48 (mb 45 536870911) HT_ rfl rfl ?_;refine pA 29 49 (mb 45 1073741823) HT_ rfl rfl ?_;refine pA 30 50 (mb 45 2147483647) HT_ rfl rfl ?_;refine pA 32 52 (mb 45 6442450943) HT_ rfl rfl ?_;refine pA 36 56 (mb 45 75161927679) HT_ rfl rfl ?_;refine pA 38 58 (mb 45 350039834623) HT_ rfl rfl ?_;refine tA 31 51 (mb 45 352187318271) HT_ HW_ hHeld rfl rfl (by rintro w' ⟨s0, s1, s2, s3, s4, s5, s6, s7, s8, s9, s10, s11, s12, s13, s14, s15, s16, s17, s18, s19⟩;go_simp;with_reducible rfl) ?_;refine pA 33 53 (mb 45 360777252863) HT_ rfl rfl ?_;refine pA 34 54 (mb 45 377957122047) HT_ rfl rfl ?_;refine tA 35 55 (mb 45 412316860415) HT_ HW_ hHeld rfl rfl (by rintro w' ⟨s0, s1, s2, s3, s4, s5, s6, s7, s8, s9, s10, s11, s12, s13, s14, s15, s16, s17, s18, s19⟩;go_simp;with_reducible rfl) ?_;refine tA 37 57 (mb 45 549755813887) HT_ HW_ hHeld rfl rfl (by rintro w' ⟨s0, s1, s2, s3, s4, s5, s6, s7, s8, s9, s10, s11, s12, s13, s14, s15, s16, s17, s18, s19⟩;go_simp;with_reducible rfl) ?_;refine pA 39 59 (mb 45 1099511627775) HT_ rfl rfl ?_;refine pA 40 60 (mb 45 2199023255551) HT_ rfl rfl ?_;refine tA 41 61 (mb 45 4398046511103) HT_ HW_ hHeld rfl rfl (by rintro w' ⟨s0, s1, s2, s3, s4, s5, s6, s7, s8, s9, s10, s11, s12, s13, s14, s15, s16, s17, s18, s19⟩;go_simp;with_reducible rfl) ?_;refine one_ (i := 42) (N := some 62) (mb 45 8796093022207) rfl rfl (one_of HT_.out (by kernel_rfl)) (by decide) (fun K hK => ?_);refine goes_ Try.func17 (by kernel_rfl) rfl #[.slice A160_2 ((rd_T70 l0_0 x5_1).f2).length c160_2, .slice A161_2 ((rd_T70 l1_0 x5_1).f2).length c161_2] (by rfl) rfl rfl mA ?_
                    with_reducible refine (changeforgeequal_Strings.calls _ _ ((rd_T70 l0_0 x5_1).f2) _ _ ((rd_T70 l1_0 x5_1).f2) true _ ?side1 ?side2 ?side3 ?side4 A15.out).mono ?_
                    (case side1 => repeat (first|exact (Kd.C_below HR165_2.out eB)|(with_reducible refine Kd.C_alloc ?_ _)|(with_reducible refine Kd.C_drewN ?_ _)|(with_reducible refine Kd.C_drew ?_)));(case side2 => exact HC165_2.out);(case side3 => repeat (first|exact (Kd.C_below HR166_2.out eB)|(with_reducible refine Kd.C_alloc ?_ _)|(with_reducible refine Kd.C_drewN ?_ _)|(with_reducible refine Kd.C_drew ?_)));(case side4 => exact HC166_2.out)
                    rintro e w' ⟨rfl, ⟨nd, rfl⟩⟩
                    refine ⟨_, rfl, ?_⟩;refine hK.out _ _ ⟨(blk_cell BK158.out 0).trans rfl, (blk_cell BK159.out 0).trans rfl, (hX HB hw160_0:), (hX HB hw160_1:), (hX HB hw160_2:), (hX HB hw161_0:), (hX HB hw161_1:), (hX HB hw161_2:), (hX HB hw162_0:), (hX HB hw162_1:), (hX HB hw162_2:), (hX HB hw163_0:), (hX HB hw163_1:), (hX HB hw163_2:), (hX HB hw165_0:), (hX HB hw165_1:), (hX HB hw165_2:), (hX HB hw166_0:), (hX HB hw166_1:), (hX HB hw166_2:)⟩ (fun hHeld => ?_);clear hK K;refine nmA (some 62) ?_;refine pA 43 63 (mb 45 17592186044415) HT_ rfl rfl ?_;refine pA 44 64 (mb 45 35184372088831) HT_ rfl rfl ?_;refine done_ (done_of HT_.out (by kernel_rfl)) ?_
                    try go_wp2
                    go_roundg k1
                    case measure => have := HK1.out;omega
                    case rel => exact ⟨(wrap64 (x5_1 + 1)), (by first|rfl|(simp only [i64_w, i32_w];done)|(simp only [i64_w, i32_w];rfl)|(simp;done)|(simp [*];done)), H', ⟨by have := HK1.out;omega⟩, ⟨kK⟩, ⟨kK⟩, ⟨eB⟩⟩
                  · replace c16 := Bool.eq_false_iff.mpr c16;subst c16;have H1 : (some false) = some r := (by rw [if_neg (show ¬ (false = true) by decide)] at H;exact H);clear H;have H := H1;clear H1;obtain rfl := Option.some.inj H;have hnb20 := eq_false NB158_159.out;have hnc20 := eq_false NB159_158.out;have hcz21_0 : wr.cell? ⟨gb158, 0, none⟩ = some (.slice A0_0 l0_0.length c0_0) := (blk_cell BK158.out 0).trans rfl;have hfz21_0 := blk_frozen BK158.out 0
                    try go_wp2
                    replace BK158 := Aside0.mk (blk_drew BK158.out);replace BK159 := Aside0.mk (blk_drew BK159.out);replace HB := Aside0.mk (below_drew1 HB.out);have p160 : 0 ≤ (x5_1 : Int) := dA;have q160 : x5_1 < (l0_0.length : Int) := dA;obtain ⟨ad160, A160_1, c160_1, A160_2, c160_2, e160, hx160_0, hx160_1, hx160_2, hl160_1, hi160_1, hl160_2, hi160_2⟩ := at_T70 HR0_0.out x5_1 p160 q160;have hw160_2 := hx160_2;have hw160_1 := hx160_1;have hw160_0 := hx160_0
                    cases e160
                    replace hx160_0 := (hX HB hx160_0:);replace hx160_1 := (hX HB hx160_1:);replace hx160_2 := (hX HB hx160_2:);have HR160_1 := Aside0.mk hi160_1;have HC160_1 := Aside0.mk hl160_1;clear hi160_1 hl160_1;have HR160_2 := Aside0.mk hi160_2;have HC160_2 := Aside0.mk hl160_2;clear hi160_2 hl160_2;replace p160 := eq_true p160;replace q160 := eq_true q160;have p161 : 0 ≤ (x5_1 : Int) := dA;have q161 : x5_1 < (l1_0.length : Int) := dA;obtain ⟨ad161, A161_1, c161_1, A161_2, c161_2, e161, hx161_0, hx161_1, hx161_2, hl161_1, hi161_1, hl161_2, hi161_2⟩ := at_T70 HR1_0.out x5_1 p161 q161;have hw161_2 := hx161_2;have hw161_1 := hx161_1;have hw161_0 := hx161_0
                    cases e161
                    replace hx161_0 := (hX HB hx161_0:);replace hx161_1 := (hX HB hx161_1:);replace hx161_2 := (hX HB hx161_2:);have HR161_1 := Aside0.mk hi161_1;have HC161_1 := Aside0.mk hl161_1;clear hi161_1 hl161_1;have HR161_2 := Aside0.mk hi161_2;have HC161_2 := Aside0.mk hl161_2;clear hi161_2 hl161_2;replace p161 := eq_true p161;replace q161 := eq_true q161;have p162 : 0 ≤ (x5_1 : Int) := dA;have q162 : x5_1 < (l0_0.length : Int) := dA;obtain ⟨ad162, A162_1, c162_1, A162_2, c162_2, e162, hx162_0, hx162_1, hx162_2, hl162_1, hi162_1, hl162_2, hi162_2⟩ := at_T70 HR0_0.out x5_1 p162 q162;have hw162_2 := hx162_2;have hw162_1 := hx162_1;have hw162_0 := hx162_0;obtain rfl : ad160 = ad162 := (by injection e162);replace hx162_0 := (hX HB hx162_0:);replace hx162_1 := (hX HB hx162_1:);replace hx162_2 := (hX HB hx162_2:);have HR162_1 := Aside0.mk hi162_1;have HC162_1 := Aside0.mk hl162_1;clear hi162_1 hl162_1;have HR162_2 := Aside0.mk hi162_2;have HC162_2 := Aside0.mk hl162_2;clear hi162_2 hl162_2;replace p162 := eq_true p162;replace q162 := eq_true q162;have ea_ := Option.some.inj (hx160_1.symm.trans hx162_1);injection ea_ with ea_ en_ ec_;subst ea_;subst ec_;clear en_;have ea_ := Option.some.inj (hx160_2.symm.trans hx162_2);injection ea_ with ea_ en_ ec_;subst ea_;subst ec_;clear en_;have p163 : 0 ≤ (x5_1 : Int) := dA;have q163 : x5_1 < (l1_0.length : Int) := dA;obtain ⟨ad163, A163_1, c163_1, A163_2, c163_2, e163, hx163_0, hx163_1, hx163_2, hl163_1, hi163_1, hl163_2, hi163_2⟩ := at_T70 HR1_0.out x5_1 p163 q163;have hw163_2 := hx163_2;have hw163_1 := hx163_1;have hw163_0 := hx163_0;obtain rfl : ad161 = ad163 := (by injection e163);replace hx163_0 := (hX HB hx163_0:);replace hx163_1 := (hX HB hx163_1:);replace hx163_2 := (hX HB hx163_2:);have HR163_1 := Aside0.mk hi163_1;have HC163_1 := Aside0.mk hl163_1;clear hi163_1 hl163_1;have HR163_2 := Aside0.mk hi163_2;have HC163_2 := Aside0.mk hl163_2;clear hi163_2 hl163_2;replace p163 := eq_true p163;replace q163 := eq_true q163;have ea_ := Option.some.inj (hx161_1.symm.trans hx163_1);injection ea_ with ea_ en_ ec_;subst ea_;subst ec_;clear en_;have ea_ := Option.some.inj (hx161_2.symm.trans hx163_2);injection ea_ with ea_ en_ ec_;subst ea_;subst ec_;clear en_;have p165 : 0 ≤ (x5_1 : Int) := dA;have q165 : x5_1 < (l0_0.length : Int) := dA;obtain ⟨ad165, A165_1, c165_1, A165_2, c165_2, e165, hx165_0, hx165_1, hx165_2, hl165_1, hi165_1, hl165_2, hi165_2⟩ := at_T70 HR0_0.out x5_1 p165 q165;have hw165_2 := hx165_2;have hw165_1 := hx165_1;have hw165_0 := hx165_0;obtain rfl : ad160 = ad165 := (by injection e165);replace hx165_0 := (hX HB hx165_0:);replace hx165_1 := (hX HB hx165_1:);replace hx165_2 := (hX HB hx165_2:);have HR165_1 := Aside0.mk hi165_1;have HC165_1 := Aside0.mk hl165_1;clear hi165_1 hl165_1;have HR165_2 := Aside0.mk hi165_2;have HC165_2 := Aside0.mk hl165_2;clear hi165_2 hl165_2;replace p165 := eq_true p165;replace q165 := eq_true q165;have ea_ := Option.some.inj (hx160_1.symm.trans hx165_1);injection ea_ with ea_ en_ ec_;subst ea_;subst ec_;clear en_;have ea_ := Option.some.inj (hx160_2.symm.trans hx165_2);injection ea_ with ea_ en_ ec_;subst ea_;subst ec_;clear en_;have p166 : 0 ≤ (x5_1 : Int) := dA;have q166 : x5_1 < (l1_0.length : Int) := dA;obtain ⟨ad166, A166_1, c166_1, A166_2, c166_2, e166, hx166_0, hx166_1, hx166_2, hl166_1, hi166_1, hl166_2, hi166_2⟩ := at_T70 HR1_0.out x5_1 p166 q166;have hw166_2 := hx166_2;have hw166_1 := hx166_1;have hw166_0 := hx166_0;obtain rfl : ad161 = ad166 := (by injection e166);replace hx166_0 := (hX HB hx166_0:);replace hx166_1 := (hX HB hx166_1:);replace hx166_2 := (hX HB hx166_2:);have HR166_1 := Aside0.mk hi166_1;have HC166_1 := Aside0.mk hl166_1;clear hi166_1 hl166_1;have HR166_2 := Aside0.mk hi166_2;have HC166_2 := Aside0.mk hl166_2;clear hi166_2 hl166_2;replace p166 := eq_true p166;replace q166 := eq_true q166;have ea_ := Option.some.inj (hx161_1.symm.trans hx166_1);injection ea_ with ea_ en_ ec_;subst ea_;subst ec_;clear en_;have ea_ := Option.some.inj (hx161_2.symm.trans hx166_2);injection ea_ with ea_ en_ ec_;subst ea_;subst ec_;clear en_;refine start_ (n := 45) (S := fun w' => w'.cell? ⟨gb158, 0, none⟩ = some (.slice (some ad160) l0_0.length c0_0) ∧ w'.cell? ⟨gb159, 0, none⟩ = some (.slice (some ad161) l1_0.length c1_0) ∧ w'.cell? (ad160.add ((x5_1).toNat * 3)) = some (.int .i64 ((rd_T70 l0_0 x5_1).f0)) ∧ w'.cell? ⟨(ad160.add ((x5_1).toNat * 3)).block, (ad160.add ((x5_1).toNat * 3)).off + 1, none⟩ = some (.slice A160_1 ((rd_T70 l0_0 x5_1).f1).length c160_1) ∧ w'.cell? ⟨(ad160.add ((x5_1).toNat * 3)).block, (ad160.add ((x5_1).toNat * 3)).off + 2, none⟩ = some (.slice A160_2 ((rd_T70 l0_0 x5_1).f2).length c160_2) ∧ w'.cell? (ad161.add ((x5_1).toNat * 3)) = some (.int .i64 ((rd_T70 l1_0 x5_1).f0)) ∧ w'.cell? ⟨(ad161.add ((x5_1).toNat * 3)).block, (ad161.add ((x5_1).toNat * 3)).off + 1, none⟩ = some (.slice A161_1 ((rd_T70 l1_0 x5_1).f1).length c161_1) ∧ w'.cell? ⟨(ad161.add ((x5_1).toNat * 3)).block, (ad161.add ((x5_1).toNat * 3)).off + 2, none⟩ = some (.slice A161_2 ((rd_T70 l1_0 x5_1).f2).length c161_2) ∧ w'.cell? (ad160.add ((x5_1).toNat * 3)) = some (.int .i64 ((rd_T70 l0_0 x5_1).f0)) ∧ w'.cell? ⟨(ad160.add ((x5_1).toNat * 3)).block, (ad160.add ((x5_1).toNat * 3)).off + 1, none⟩ = some (.slice A160_1 ((rd_T70 l0_0 x5_1).f1).length c160_1) ∧ w'.cell? ⟨(ad160.add ((x5_1).toNat * 3)).block, (ad160.add ((x5_1).toNat * 3)).off + 2, none⟩ = some (.slice A160_2 ((rd_T70 l0_0 x5_1).f2).length c160_2) ∧ w'.cell? (ad161.add ((x5_1).toNat * 3)) = some (.int .i64 ((rd_T70 l1_0 x5_1).f0)) ∧ w'.cell? ⟨(ad161.add ((x5_1).toNat * 3)).block, (ad161.add ((x5_1).toNat * 3)).off + 1, none⟩ = some (.slice A161_1 ((rd_T70 l1_0 x5_1).f1).length c161_1) ∧ w'.cell? ⟨(ad161.add ((x5_1).toNat * 3)).block, (ad161.add ((x5_1).toNat * 3)).off + 2, none⟩ = some (.slice A161_2 ((rd_T70 l1_0 x5_1).f2).length c161_2) ∧ w'.cell? (ad160.add ((x5_1).toNat * 3)) = some (.int .i64 ((rd_T70 l0_0 x5_1).f0)) ∧ w'.cell? ⟨(ad160.add ((x5_1).toNat * 3)).block, (ad160.add ((x5_1).toNat * 3)).off + 1, none⟩ = some (.slice A160_1 ((rd_T70 l0_0 x5_1).f1).length c160_1) ∧ w'.cell? ⟨(ad160.add ((x5_1).toNat * 3)).block, (ad160.add ((x5_1).toNat * 3)).off + 2, none⟩ = some (.slice A160_2 ((rd_T70 l0_0 x5_1).f2).length c160_2) ∧ w'.cell? (ad161.add ((x5_1).toNat * 3)) = some (.int .i64 ((rd_T70 l1_0 x5_1).f0)) ∧ w'.cell? ⟨(ad161.add ((x5_1).toNat * 3)).block, (ad161.add ((x5_1).toNat * 3)).off + 1, none⟩ = some (.slice A161_1 ((rd_T70 l1_0 x5_1).f1).length c161_1) ∧ w'.cell? ⟨(ad161.add ((x5_1).toNat * 3)).block, (ad161.add ((x5_1).toNat * 3)).off + 2, none⟩ = some (.slice A161_2 ((rd_T70 l1_0 x5_1).f2).length c161_2)) (ds := []) (mb 45 0) (by kernel_rfl) rfl (by kernel_rfl) ⟨(blk_cell BK158.out 0).trans rfl, (blk_cell BK159.out 0).trans rfl, (hX HB hw160_0:), (hX HB hw160_1:), (hX HB hw160_2:), (hX HB hw161_0:), (hX HB hw161_1:), (hX HB hw161_2:), (hX HB hw162_0:), (hX HB hw162_1:), (hX HB hw162_2:), (hX HB hw163_0:), (hX HB hw163_1:), (hX HB hw163_2:), (hX HB hw165_0:), (hX HB hw165_1:), (hX HB hw165_2:), (hX HB hw166_0:), (hX HB hw166_1:), (hX HB hw166_2:)⟩ (fun hHeld => ?_);refine with_tabW changeforgeequal_Patch.tab6 changeforgeequal_Patch.bits6 (fun HT_ HW_ => ?_);generalize wr.drew = w22 at BK158 BK159 HB HR160_1 HR160_2 HR161_1 HR161_2 HR162_1 HR162_2 HR163_1 HR163_2 HR165_1 HR165_2 HR166_1 HR166_2 hx160_0 hx160_1 hx160_2 hx161_0 hx161_1 hx161_2 hx162_0 hx162_1 hx162_2 hx163_0 hx163_1 hx163_2 hx165_0 hx165_1 hx165_2 hx166_0 hx166_1 hx166_2 hHeld ⊢;refine pA 0 20 (mb 45 1) HT_ rfl rfl ?_;refine pA 2 22 (mb 45 5) HT_ rfl rfl ?_;refine pA 6 26 (mb 45 69) HT_ rfl rfl ?_;refine pA 8 28 (mb 45 325) HT_ rfl rfl ?_;refine tA 1 21 (mb 45 327) HT_ HW_ hHeld rfl rfl (by rintro w' ⟨s0, s1, s2, s3, s4, s5, s6, s7, s8, s9, s10, s11, s12, s13, s14, s15, s16, s17, s18, s19⟩;go_simp;with_reducible rfl) ?_;refine pA 3 23 (mb 45 335) HT_ rfl rfl ?_;refine pA 4 24 (mb 45 351) HT_ rfl rfl ?_;refine tA 5 25 (mb 45 383) HT_ HW_ hHeld rfl rfl (by rintro w' ⟨s0, s1, s2, s3, s4, s5, s6, s7, s8, s9, s10, s11, s12, s13, s14, s15, s16, s17, s18, s19⟩;go_simp;with_reducible rfl) ?_;refine tA 7 27 (mb 45 511) HT_ HW_ hHeld rfl rfl (by rintro w' ⟨s0, s1, s2, s3, s4, s5, s6, s7, s8, s9, s10, s11, s12, s13, s14, s15, s16, s17, s18, s19⟩;go_simp;with_reducible rfl) ?_;refine pA 9 29 (mb 45 1023) HT_ rfl rfl ?_;refine pA 10 30 (mb 45 2047) HT_ rfl rfl ?_;refine tA 11 31 (mb 45 4095) HT_ HW_ hHeld rfl rfl (by rintro w' ⟨s0, s1, s2, s3, s4, s5, s6, s7, s8, s9, s10, s11, s12, s13, s14, s15, s16, s17, s18, s19⟩;go_simp;with_reducible rfl) ?_;refine pA 12 32 (mb 45 8191) HT_ rfl rfl ?_;refine pA 13 33 (mb 45 16383) HT_ rfl rfl ?_;refine pA 14 34 (mb 45 32767) HT_ rfl rfl ?_;refine pA 16 36 (mb 45 98303) HT_ rfl rfl ?_;refine pA 20 40 (mb 45 1146879) HT_ rfl rfl ?_;refine pA 22 42 (mb 45 5341183) HT_ rfl rfl ?_;refine tA 15 35 (mb 45 5373951) HT_ HW_ hHeld rfl rfl (by rintro w' ⟨s0, s1, s2, s3, s4, s5, s6, s7, s8, s9, s10, s11, s12, s13, s14, s15, s16, s17, s18, s19⟩;go_simp;with_reducible rfl) ?_;refine pA 17 37 (mb 45 5505023) HT_ rfl rfl ?_;refine pA 18 38 (mb 45 5767167) HT_ rfl rfl ?_;refine tA 19 39 (mb 45 6291455) HT_ HW_ hHeld rfl rfl (by rintro w' ⟨s0, s1, s2, s3, s4, s5, s6, s7, s8, s9, s10, s11, s12, s13, s14, s15, s16, s17, s18, s19⟩;go_simp;with_reducible rfl) ?_;refine tA 21 41 (mb 45 8388607) HT_ HW_ hHeld rfl rfl (by rintro w' ⟨s0, s1, s2, s3, s4, s5, s6, s7, s8, s9, s10, s11, s12, s13, s14, s15, s16, s17, s18, s19⟩;go_simp;with_reducible rfl) ?_;refine pA 23 43 (mb 45 16777215) HT_ rfl rfl ?_;refine pA 24 44 (mb 45 33554431) HT_ rfl rfl ?_;refine tA 25 45 (mb 45 67108863) HT_ HW_ hHeld rfl rfl (by rintro w' ⟨s0, s1, s2, s3, s4, s5, s6, s7, s8, s9, s10, s11, s12, s13, s14, s15, s16, s17, s18, s19⟩;go_simp;with_reducible rfl) ?_;refine one_ (i := 26) (N := some 46) (mb 45 134217727) rfl rfl (one_of HT_.out (by kernel_rfl)) (by decide) (fun K hK => ?_);refine goes_ Try.func17 (by kernel_rfl) rfl #[.slice A160_1 ((rd_T70 l0_0 x5_1).f1).length c160_1, .slice A161_1 ((rd_T70 l1_0 x5_1).f1).length c161_1] (by rfl) rfl rfl mA ?_
                    with_reducible refine (changeforgeequal_Strings.calls _ _ ((rd_T70 l0_0 x5_1).f1) _ _ ((rd_T70 l1_0 x5_1).f1) true _ ?side1 ?side2 ?side3 ?side4 A13.out).mono ?_
                    (case side1 => exact cBe HR162_1);(case side2 => exact HC162_1.out);(case side3 => exact cBe HR163_1);(case side4 => exact HC163_1.out)
                    rintro e w' ⟨rfl, ⟨nd, rfl⟩⟩
                    refine ⟨_, rfl, ?_⟩;refine hK.out _ _ ⟨(blk_cell BK158.out 0).trans rfl, (blk_cell BK159.out 0).trans rfl, (hX HB hw160_0:), (hX HB hw160_1:), (hX HB hw160_2:), (hX HB hw161_0:), (hX HB hw161_1:), (hX HB hw161_2:), (hX HB hw162_0:), (hX HB hw162_1:), (hX HB hw162_2:), (hX HB hw163_0:), (hX HB hw163_1:), (hX HB hw163_2:), (hX HB hw165_0:), (hX HB hw165_1:), (hX HB hw165_2:), (hX HB hw166_0:), (hX HB hw166_1:), (hX HB hw166_2:)⟩ (fun hHeld => ?_);clear hK K;refine nmA (some 46) ?_;refine pA 27 47 (mb 45 268435455) HT_ rfl rfl ?_;refine pA 28 48 (mb 45 536870911) HT_ rfl rfl ?_;refine pA 29 49 (mb 45 1073741823) HT_ rfl rfl ?_;refine pA 30 50 (mb 45 2147483647) HT_ rfl rfl ?_;refine pA 32 52 (mb 45 6442450943) HT_ rfl rfl ?_;refine pA 36 56 (mb 45 75161927679) HT_ rfl rfl ?_;refine pA 38 58 (mb 45 350039834623) HT_ rfl rfl ?_;refine tA 31 51 (mb 45 352187318271) HT_ HW_ hHeld rfl rfl (by rintro w' ⟨s0, s1, s2, s3, s4, s5, s6, s7, s8, s9, s10, s11, s12, s13, s14, s15, s16, s17, s18, s19⟩;go_simp;with_reducible rfl) ?_;refine pA 33 53 (mb 45 360777252863) HT_ rfl rfl ?_;refine pA 34 54 (mb 45 377957122047) HT_ rfl rfl ?_;refine tA 35 55 (mb 45 412316860415) HT_ HW_ hHeld rfl rfl (by rintro w' ⟨s0, s1, s2, s3, s4, s5, s6, s7, s8, s9, s10, s11, s12, s13, s14, s15, s16, s17, s18, s19⟩;go_simp;with_reducible rfl) ?_;refine tA 37 57 (mb 45 549755813887) HT_ HW_ hHeld rfl rfl (by rintro w' ⟨s0, s1, s2, s3, s4, s5, s6, s7, s8, s9, s10, s11, s12, s13, s14, s15, s16, s17, s18, s19⟩;go_simp;with_reducible rfl) ?_;refine pA 39 59 (mb 45 1099511627775) HT_ rfl rfl ?_;refine pA 40 60 (mb 45 2199023255551) HT_ rfl rfl ?_;refine tA 41 61 (mb 45 4398046511103) HT_ HW_ hHeld rfl rfl (by rintro w' ⟨s0, s1, s2, s3, s4, s5, s6, s7, s8, s9, s10, s11, s12, s13, s14, s15, s16, s17, s18, s19⟩;go_simp;with_reducible rfl) ?_;refine one_ (i := 42) (N := some 62) (mb 45 8796093022207) rfl rfl (one_of HT_.out (by kernel_rfl)) (by decide) (fun K hK => ?_);refine goes_ Try.func17 (by kernel_rfl) rfl #[.slice A160_2 ((rd_T70 l0_0 x5_1).f2).length c160_2, .slice A161_2 ((rd_T70 l1_0 x5_1).f2).length c161_2] (by rfl) rfl rfl mA ?_
                    with_reducible refine (changeforgeequal_Strings.calls _ _ ((rd_T70 l0_0 x5_1).f2) _ _ ((rd_T70 l1_0 x5_1).f2) false _ ?side1 ?side2 ?side3 ?side4 A15.out).mono ?_
                    (case side1 => repeat (first|exact (Kd.C_below HR165_2.out eB)|(with_reducible refine Kd.C_alloc ?_ _)|(with_reducible refine Kd.C_drewN ?_ _)|(with_reducible refine Kd.C_drew ?_)));(case side2 => exact HC165_2.out);(case side3 => repeat (first|exact (Kd.C_below HR166_2.out eB)|(with_reducible refine Kd.C_alloc ?_ _)|(with_reducible refine Kd.C_drewN ?_ _)|(with_reducible refine Kd.C_drew ?_)));(case side4 => exact HC166_2.out)
                    rintro e w' ⟨rfl, ⟨nd, rfl⟩⟩
                    refine ⟨_, rfl, ?_⟩;refine hK.out _ _ ⟨(blk_cell BK158.out 0).trans rfl, (blk_cell BK159.out 0).trans rfl, (hX HB hw160_0:), (hX HB hw160_1:), (hX HB hw160_2:), (hX HB hw161_0:), (hX HB hw161_1:), (hX HB hw161_2:), (hX HB hw162_0:), (hX HB hw162_1:), (hX HB hw162_2:), (hX HB hw163_0:), (hX HB hw163_1:), (hX HB hw163_2:), (hX HB hw165_0:), (hX HB hw165_1:), (hX HB hw165_2:), (hX HB hw166_0:), (hX HB hw166_1:), (hX HB hw166_2:)⟩ (fun hHeld => ?_);clear hK K;refine nmA (some 62) ?_;refine pA 43 63 (mb 45 17592186044415) HT_ rfl rfl ?_;refine pA 44 64 (mb 45 35184372088831) HT_ rfl rfl ?_;refine done_ (done_of HT_.out (by kernel_rfl)) ?_
                    try go_wp2
                    go_ret
                    exact ⟨rW, eB⟩
                · replace c14 := Bool.eq_false_iff.mpr c14;subst c14;have H1 : (some false) = some r := (by rw [if_neg (show ¬ (false = true) by decide)] at H;exact H);clear H;have H := H1;clear H1;obtain rfl := Option.some.inj H;have hnb23 := eq_false NB158_159.out;have hnc23 := eq_false NB159_158.out;have hcz24_0 : wr.cell? ⟨gb158, 0, none⟩ = some (.slice A0_0 l0_0.length c0_0) := (blk_cell BK158.out 0).trans rfl;have hfz24_0 := blk_frozen BK158.out 0
                  try go_wp2
                  replace BK158 := Aside0.mk (blk_drew BK158.out);replace BK159 := Aside0.mk (blk_drew BK159.out);replace HB := Aside0.mk (below_drew1 HB.out);have p160 : 0 ≤ (x5_1 : Int) := dA;have q160 : x5_1 < (l0_0.length : Int) := dA;obtain ⟨ad160, A160_1, c160_1, A160_2, c160_2, e160, hx160_0, hx160_1, hx160_2, hl160_1, hi160_1, hl160_2, hi160_2⟩ := at_T70 HR0_0.out x5_1 p160 q160;have hw160_2 := hx160_2;have hw160_1 := hx160_1;have hw160_0 := hx160_0
                  cases e160
                  replace hx160_0 := (hX HB hx160_0:);replace hx160_1 := (hX HB hx160_1:);replace hx160_2 := (hX HB hx160_2:);have HR160_1 := Aside0.mk hi160_1;have HC160_1 := Aside0.mk hl160_1;clear hi160_1 hl160_1;have HR160_2 := Aside0.mk hi160_2;have HC160_2 := Aside0.mk hl160_2;clear hi160_2 hl160_2;replace p160 := eq_true p160;replace q160 := eq_true q160;have p161 : 0 ≤ (x5_1 : Int) := dA;have q161 : x5_1 < (l1_0.length : Int) := dA;obtain ⟨ad161, A161_1, c161_1, A161_2, c161_2, e161, hx161_0, hx161_1, hx161_2, hl161_1, hi161_1, hl161_2, hi161_2⟩ := at_T70 HR1_0.out x5_1 p161 q161;have hw161_2 := hx161_2;have hw161_1 := hx161_1;have hw161_0 := hx161_0
                  cases e161
                  replace hx161_0 := (hX HB hx161_0:);replace hx161_1 := (hX HB hx161_1:);replace hx161_2 := (hX HB hx161_2:);have HR161_1 := Aside0.mk hi161_1;have HC161_1 := Aside0.mk hl161_1;clear hi161_1 hl161_1;have HR161_2 := Aside0.mk hi161_2;have HC161_2 := Aside0.mk hl161_2;clear hi161_2 hl161_2;replace p161 := eq_true p161;replace q161 := eq_true q161;have p162 : 0 ≤ (x5_1 : Int) := dA;have q162 : x5_1 < (l0_0.length : Int) := dA;obtain ⟨ad162, A162_1, c162_1, A162_2, c162_2, e162, hx162_0, hx162_1, hx162_2, hl162_1, hi162_1, hl162_2, hi162_2⟩ := at_T70 HR0_0.out x5_1 p162 q162;have hw162_2 := hx162_2;have hw162_1 := hx162_1;have hw162_0 := hx162_0;obtain rfl : ad160 = ad162 := (by injection e162);replace hx162_0 := (hX HB hx162_0:);replace hx162_1 := (hX HB hx162_1:);replace hx162_2 := (hX HB hx162_2:);have HR162_1 := Aside0.mk hi162_1;have HC162_1 := Aside0.mk hl162_1;clear hi162_1 hl162_1;have HR162_2 := Aside0.mk hi162_2;have HC162_2 := Aside0.mk hl162_2;clear hi162_2 hl162_2;replace p162 := eq_true p162;replace q162 := eq_true q162;have ea_ := Option.some.inj (hx160_1.symm.trans hx162_1);injection ea_ with ea_ en_ ec_;subst ea_;subst ec_;clear en_;have ea_ := Option.some.inj (hx160_2.symm.trans hx162_2);injection ea_ with ea_ en_ ec_;subst ea_;subst ec_;clear en_;have p163 : 0 ≤ (x5_1 : Int) := dA;have q163 : x5_1 < (l1_0.length : Int) := dA;obtain ⟨ad163, A163_1, c163_1, A163_2, c163_2, e163, hx163_0, hx163_1, hx163_2, hl163_1, hi163_1, hl163_2, hi163_2⟩ := at_T70 HR1_0.out x5_1 p163 q163;have hw163_2 := hx163_2;have hw163_1 := hx163_1;have hw163_0 := hx163_0;obtain rfl : ad161 = ad163 := (by injection e163);replace hx163_0 := (hX HB hx163_0:);replace hx163_1 := (hX HB hx163_1:);replace hx163_2 := (hX HB hx163_2:);have HR163_1 := Aside0.mk hi163_1;have HC163_1 := Aside0.mk hl163_1;clear hi163_1 hl163_1;have HR163_2 := Aside0.mk hi163_2;have HC163_2 := Aside0.mk hl163_2;clear hi163_2 hl163_2;replace p163 := eq_true p163;replace q163 := eq_true q163;have ea_ := Option.some.inj (hx161_1.symm.trans hx163_1);injection ea_ with ea_ en_ ec_;subst ea_;subst ec_;clear en_;have ea_ := Option.some.inj (hx161_2.symm.trans hx163_2);injection ea_ with ea_ en_ ec_;subst ea_;subst ec_;clear en_;refine start_ (n := 45) (S := fun w' => w'.cell? ⟨gb158, 0, none⟩ = some (.slice (some ad160) l0_0.length c0_0) ∧ w'.cell? ⟨gb159, 0, none⟩ = some (.slice (some ad161) l1_0.length c1_0) ∧ w'.cell? (ad160.add ((x5_1).toNat * 3)) = some (.int .i64 ((rd_T70 l0_0 x5_1).f0)) ∧ w'.cell? ⟨(ad160.add ((x5_1).toNat * 3)).block, (ad160.add ((x5_1).toNat * 3)).off + 1, none⟩ = some (.slice A160_1 ((rd_T70 l0_0 x5_1).f1).length c160_1) ∧ w'.cell? ⟨(ad160.add ((x5_1).toNat * 3)).block, (ad160.add ((x5_1).toNat * 3)).off + 2, none⟩ = some (.slice A160_2 ((rd_T70 l0_0 x5_1).f2).length c160_2) ∧ w'.cell? (ad161.add ((x5_1).toNat * 3)) = some (.int .i64 ((rd_T70 l1_0 x5_1).f0)) ∧ w'.cell? ⟨(ad161.add ((x5_1).toNat * 3)).block, (ad161.add ((x5_1).toNat * 3)).off + 1, none⟩ = some (.slice A161_1 ((rd_T70 l1_0 x5_1).f1).length c161_1) ∧ w'.cell? ⟨(ad161.add ((x5_1).toNat * 3)).block, (ad161.add ((x5_1).toNat * 3)).off + 2, none⟩ = some (.slice A161_2 ((rd_T70 l1_0 x5_1).f2).length c161_2) ∧ w'.cell? (ad160.add ((x5_1).toNat * 3)) = some (.int .i64 ((rd_T70 l0_0 x5_1).f0)) ∧ w'.cell? ⟨(ad160.add ((x5_1).toNat * 3)).block, (ad160.add ((x5_1).toNat * 3)).off + 1, none⟩ = some (.slice A160_1 ((rd_T70 l0_0 x5_1).f1).length c160_1) ∧ w'.cell? ⟨(ad160.add ((x5_1).toNat * 3)).block, (ad160.add ((x5_1).toNat * 3)).off + 2, none⟩ = some (.slice A160_2 ((rd_T70 l0_0 x5_1).f2).length c160_2) ∧ w'.cell? (ad161.add ((x5_1).toNat * 3)) = some (.int .i64 ((rd_T70 l1_0 x5_1).f0)) ∧ w'.cell? ⟨(ad161.add ((x5_1).toNat * 3)).block, (ad161.add ((x5_1).toNat * 3)).off + 1, none⟩ = some (.slice A161_1 ((rd_T70 l1_0 x5_1).f1).length c161_1) ∧ w'.cell? ⟨(ad161.add ((x5_1).toNat * 3)).block, (ad161.add ((x5_1).toNat * 3)).off + 2, none⟩ = some (.slice A161_2 ((rd_T70 l1_0 x5_1).f2).length c161_2)) (ds := []) (mb 45 0) (by kernel_rfl) rfl (by kernel_rfl) ⟨(blk_cell BK158.out 0).trans rfl, (blk_cell BK159.out 0).trans rfl, (hX HB hw160_0:), (hX HB hw160_1:), (hX HB hw160_2:), (hX HB hw161_0:), (hX HB hw161_1:), (hX HB hw161_2:), (hX HB hw162_0:), (hX HB hw162_1:), (hX HB hw162_2:), (hX HB hw163_0:), (hX HB hw163_1:), (hX HB hw163_2:)⟩ (fun hHeld => ?_);refine with_tabW changeforgeequal_Patch.tab6 changeforgeequal_Patch.bits6 (fun HT_ HW_ => ?_);generalize wr.drew = w25 at BK158 BK159 HB HR160_1 HR160_2 HR161_1 HR161_2 HR162_1 HR162_2 HR163_1 HR163_2 hx160_0 hx160_1 hx160_2 hx161_0 hx161_1 hx161_2 hx162_0 hx162_1 hx162_2 hx163_0 hx163_1 hx163_2 hHeld ⊢;refine pA 0 20 (mb 45 1) HT_ rfl rfl ?_;refine pA 2 22 (mb 45 5) HT_ rfl rfl ?_;refine pA 6 26 (mb 45 69) HT_ rfl rfl ?_;refine pA 8 28 (mb 45 325) HT_ rfl rfl ?_;refine tA 1 21 (mb 45 327) HT_ HW_ hHeld rfl rfl (by rintro w' ⟨s0, s1, s2, s3, s4, s5, s6, s7, s8, s9, s10, s11, s12, s13⟩;go_simp;with_reducible rfl) ?_;refine pA 3 23 (mb 45 335) HT_ rfl rfl ?_;refine pA 4 24 (mb 45 351) HT_ rfl rfl ?_;refine tA 5 25 (mb 45 383) HT_ HW_ hHeld rfl rfl (by rintro w' ⟨s0, s1, s2, s3, s4, s5, s6, s7, s8, s9, s10, s11, s12, s13⟩;go_simp;with_reducible rfl) ?_;refine tA 7 27 (mb 45 511) HT_ HW_ hHeld rfl rfl (by rintro w' ⟨s0, s1, s2, s3, s4, s5, s6, s7, s8, s9, s10, s11, s12, s13⟩;go_simp;with_reducible rfl) ?_;refine pA 9 29 (mb 45 1023) HT_ rfl rfl ?_;refine pA 10 30 (mb 45 2047) HT_ rfl rfl ?_;refine tA 11 31 (mb 45 4095) HT_ HW_ hHeld rfl rfl (by rintro w' ⟨s0, s1, s2, s3, s4, s5, s6, s7, s8, s9, s10, s11, s12, s13⟩;go_simp;with_reducible rfl) ?_;refine pA 12 32 (mb 45 8191) HT_ rfl rfl ?_;refine pA 13 33 (mb 45 16383) HT_ rfl rfl ?_;refine pA 14 34 (mb 45 32767) HT_ rfl rfl ?_;refine pA 16 36 (mb 45 98303) HT_ rfl rfl ?_;refine pA 20 40 (mb 45 1146879) HT_ rfl rfl ?_;refine pA 22 42 (mb 45 5341183) HT_ rfl rfl ?_;refine tA 15 35 (mb 45 5373951) HT_ HW_ hHeld rfl rfl (by rintro w' ⟨s0, s1, s2, s3, s4, s5, s6, s7, s8, s9, s10, s11, s12, s13⟩;go_simp;with_reducible rfl) ?_;refine pA 17 37 (mb 45 5505023) HT_ rfl rfl ?_;refine pA 18 38 (mb 45 5767167) HT_ rfl rfl ?_;refine tA 19 39 (mb 45 6291455) HT_ HW_ hHeld rfl rfl (by rintro w' ⟨s0, s1, s2, s3, s4, s5, s6, s7, s8, s9, s10, s11, s12, s13⟩;go_simp;with_reducible rfl) ?_;refine tA 21 41 (mb 45 8388607) HT_ HW_ hHeld rfl rfl (by rintro w' ⟨s0, s1, s2, s3, s4, s5, s6, s7, s8, s9, s10, s11, s12, s13⟩;go_simp;with_reducible rfl) ?_;refine pA 23 43 (mb 45 16777215) HT_ rfl rfl ?_;refine pA 24 44 (mb 45 33554431) HT_ rfl rfl ?_;refine tA 25 45 (mb 45 67108863) HT_ HW_ hHeld rfl rfl (by rintro w' ⟨s0, s1, s2, s3, s4, s5, s6, s7, s8, s9, s10, s11, s12, s13⟩;go_simp;with_reducible rfl) ?_;refine one_ (i := 26) (N := some 46) (mb 45 134217727) rfl rfl (one_of HT_.out (by kernel_rfl)) (by decide) (fun K hK => ?_);refine goes_ Try.func17 (by kernel_rfl) rfl #[.slice A160_1 ((rd_T70 l0_0 x5_1).f1).length c160_1, .slice A161_1 ((rd_T70 l1_0 x5_1).f1).length c161_1] (by rfl) rfl rfl mA ?_
                  with_reducible refine (changeforgeequal_Strings.calls _ _ ((rd_T70 l0_0 x5_1).f1) _ _ ((rd_T70 l1_0 x5_1).f1) false _ ?side1 ?side2 ?side3 ?side4 A13.out).mono ?_
                  (case side1 => exact cBe HR162_1);(case side2 => exact HC162_1.out);(case side3 => exact cBe HR163_1);(case side4 => exact HC163_1.out)
                  rintro e w' ⟨rfl, ⟨nd, rfl⟩⟩
                  refine ⟨_, rfl, ?_⟩;refine hK.out _ _ ⟨(blk_cell BK158.out 0).trans rfl, (blk_cell BK159.out 0).trans rfl, (hX HB hw160_0:), (hX HB hw160_1:), (hX HB hw160_2:), (hX HB hw161_0:), (hX HB hw161_1:), (hX HB hw161_2:), (hX HB hw162_0:), (hX HB hw162_1:), (hX HB hw162_2:), (hX HB hw163_0:), (hX HB hw163_1:), (hX HB hw163_2:)⟩ (fun hHeld => ?_);clear hK K;refine nmA (some 46) ?_;refine pA 27 47 (mb 45 268435455) HT_ rfl rfl ?_;refine pA 28 48 (mb 45 536870911) HT_ rfl rfl ?_;refine pA 29 49 (mb 45 1073741823) HT_ rfl rfl ?_;refine pU 30 50 (mb 45 2147483647) HT_ rfl rfl ?_;refine pU 31 51 (mb 45 4294967295) HT_ rfl rfl ?_;refine pU 32 52 (mb 45 8589934591) HT_ rfl rfl ?_;refine pU 33 53 (mb 45 17179869183) HT_ rfl rfl ?_;refine pU 34 54 (mb 45 34359738367) HT_ rfl rfl ?_;refine pU 35 55 (mb 45 68719476735) HT_ rfl rfl ?_;refine pU 36 56 (mb 45 137438953471) HT_ rfl rfl ?_;refine pU 37 57 (mb 45 274877906943) HT_ rfl rfl ?_;refine pU 38 58 (mb 45 549755813887) HT_ rfl rfl ?_;refine pU 39 59 (mb 45 1099511627775) HT_ rfl rfl ?_;refine pU 40 60 (mb 45 2199023255551) HT_ rfl rfl ?_;refine pU 41 61 (mb 45 4398046511103) HT_ rfl rfl ?_;refine pU 42 62 (mb 45 8796093022207) HT_ rfl rfl ?_;refine pU 43 63 (mb 45 17592186044415) HT_ rfl rfl ?_;refine pA 44 64 (mb 45 35184372088831) HT_ rfl rfl ?_;refine done_ (done_of HT_.out (by kernel_rfl)) ?_
                  try go_wp2
                  go_ret
                  exact ⟨rW, eB⟩
              · rw [if_neg c12] at H;have c12b0 : (((rd_T70 l0_0 x5_1).f0) == ((rd_T70 l1_0 x5_1).f0)) = false := beq_eq_false_iff_ne.mpr c12;have c12b1 : (((rd_T70 l0_0 x5_1).f0) != ((rd_T70 l1_0 x5_1).f0)) = true := bne_iff_ne.mpr c12;obtain rfl := Option.some.inj H;have hnb26 := eq_false NB158_159.out;have hnc26 := eq_false NB159_158.out;have hcz27_0 : wr.cell? ⟨gb158, 0, none⟩ = some (.slice A0_0 l0_0.length c0_0) := (blk_cell BK158.out 0).trans rfl;have hfz27_0 := blk_frozen BK158.out 0
                try go_wp2
                replace BK158 := Aside0.mk (blk_drew BK158.out);replace BK159 := Aside0.mk (blk_drew BK159.out);replace HB := Aside0.mk (below_drew1 HB.out);have p160 : 0 ≤ (x5_1 : Int) := dA;have q160 : x5_1 < (l0_0.length : Int) := dA;obtain ⟨ad160, A160_1, c160_1, A160_2, c160_2, e160, hx160_0, hx160_1, hx160_2, hl160_1, hi160_1, hl160_2, hi160_2⟩ := at_T70 HR0_0.out x5_1 p160 q160;have hw160_2 := hx160_2;have hw160_1 := hx160_1;have hw160_0 := hx160_0
                cases e160
                replace hx160_0 := (hX HB hx160_0:);replace hx160_1 := (hX HB hx160_1:);replace hx160_2 := (hX HB hx160_2:);have HR160_1 := Aside0.mk hi160_1;have HC160_1 := Aside0.mk hl160_1;clear hi160_1 hl160_1;have HR160_2 := Aside0.mk hi160_2;have HC160_2 := Aside0.mk hl160_2;clear hi160_2 hl160_2;replace p160 := eq_true p160;replace q160 := eq_true q160;have p161 : 0 ≤ (x5_1 : Int) := dA;have q161 : x5_1 < (l1_0.length : Int) := dA;obtain ⟨ad161, A161_1, c161_1, A161_2, c161_2, e161, hx161_0, hx161_1, hx161_2, hl161_1, hi161_1, hl161_2, hi161_2⟩ := at_T70 HR1_0.out x5_1 p161 q161;have hw161_2 := hx161_2;have hw161_1 := hx161_1;have hw161_0 := hx161_0
                cases e161
                replace hx161_0 := (hX HB hx161_0:);replace hx161_1 := (hX HB hx161_1:);replace hx161_2 := (hX HB hx161_2:);have HR161_1 := Aside0.mk hi161_1;have HC161_1 := Aside0.mk hl161_1;clear hi161_1 hl161_1;have HR161_2 := Aside0.mk hi161_2;have HC161_2 := Aside0.mk hl161_2;clear hi161_2 hl161_2;replace p161 := eq_true p161;replace q161 := eq_true q161;refine start_ (n := 45) (S := fun w' => w'.cell? ⟨gb158, 0, none⟩ = some (.slice (some ad160) l0_0.length c0_0) ∧ w'.cell? ⟨gb159, 0, none⟩ = some (.slice (some ad161) l1_0.length c1_0) ∧ w'.cell? (ad160.add ((x5_1).toNat * 3)) = some (.int .i64 ((rd_T70 l0_0 x5_1).f0)) ∧ w'.cell? ⟨(ad160.add ((x5_1).toNat * 3)).block, (ad160.add ((x5_1).toNat * 3)).off + 1, none⟩ = some (.slice A160_1 ((rd_T70 l0_0 x5_1).f1).length c160_1) ∧ w'.cell? ⟨(ad160.add ((x5_1).toNat * 3)).block, (ad160.add ((x5_1).toNat * 3)).off + 2, none⟩ = some (.slice A160_2 ((rd_T70 l0_0 x5_1).f2).length c160_2) ∧ w'.cell? (ad161.add ((x5_1).toNat * 3)) = some (.int .i64 ((rd_T70 l1_0 x5_1).f0)) ∧ w'.cell? ⟨(ad161.add ((x5_1).toNat * 3)).block, (ad161.add ((x5_1).toNat * 3)).off + 1, none⟩ = some (.slice A161_1 ((rd_T70 l1_0 x5_1).f1).length c161_1) ∧ w'.cell? ⟨(ad161.add ((x5_1).toNat * 3)).block, (ad161.add ((x5_1).toNat * 3)).off + 2, none⟩ = some (.slice A161_2 ((rd_T70 l1_0 x5_1).f2).length c161_2)) (ds := []) (mb 45 0) (by kernel_rfl) rfl (by kernel_rfl) ⟨(blk_cell BK158.out 0).trans rfl, (blk_cell BK159.out 0).trans rfl, (hX HB hw160_0:), (hX HB hw160_1:), (hX HB hw160_2:), (hX HB hw161_0:), (hX HB hw161_1:), (hX HB hw161_2:)⟩ (fun hHeld => ?_);refine with_tabW changeforgeequal_Patch.tab6 changeforgeequal_Patch.bits6 (fun HT_ HW_ => ?_);generalize wr.drew = w28 at BK158 BK159 HB HR160_1 HR160_2 HR161_1 HR161_2 hx160_0 hx160_1 hx160_2 hx161_0 hx161_1 hx161_2 hHeld ⊢;refine pA 0 20 (mb 45 1) HT_ rfl rfl ?_;refine pA 2 22 (mb 45 5) HT_ rfl rfl ?_;refine pA 6 26 (mb 45 69) HT_ rfl rfl ?_;refine pA 8 28 (mb 45 325) HT_ rfl rfl ?_;refine tA 1 21 (mb 45 327) HT_ HW_ hHeld rfl rfl (by rintro w' ⟨s0, s1, s2, s3, s4, s5, s6, s7⟩;go_simp;with_reducible rfl) ?_;refine pA 3 23 (mb 45 335) HT_ rfl rfl ?_;refine pA 4 24 (mb 45 351) HT_ rfl rfl ?_;refine tA 5 25 (mb 45 383) HT_ HW_ hHeld rfl rfl (by rintro w' ⟨s0, s1, s2, s3, s4, s5, s6, s7⟩;go_simp;with_reducible rfl) ?_;refine tA 7 27 (mb 45 511) HT_ HW_ hHeld rfl rfl (by rintro w' ⟨s0, s1, s2, s3, s4, s5, s6, s7⟩;go_simp;with_reducible rfl) ?_;refine pA 9 29 (mb 45 1023) HT_ rfl rfl ?_;refine pA 10 30 (mb 45 2047) HT_ rfl rfl ?_;refine tA 11 31 (mb 45 4095) HT_ HW_ hHeld rfl rfl (by rintro w' ⟨s0, s1, s2, s3, s4, s5, s6, s7⟩;go_simp;with_reducible rfl) ?_;refine pA 12 32 (mb 45 8191) HT_ rfl rfl ?_;refine pA 13 33 (mb 45 16383) HT_ rfl rfl ?_;refine pU 14 34 (mb 45 32767) HT_ rfl rfl ?_;refine pU 15 35 (mb 45 65535) HT_ rfl rfl ?_;refine pU 16 36 (mb 45 131071) HT_ rfl rfl ?_;refine pU 17 37 (mb 45 262143) HT_ rfl rfl ?_;refine pU 18 38 (mb 45 524287) HT_ rfl rfl ?_;refine pU 19 39 (mb 45 1048575) HT_ rfl rfl ?_;refine pU 20 40 (mb 45 2097151) HT_ rfl rfl ?_;refine pU 21 41 (mb 45 4194303) HT_ rfl rfl ?_;refine pU 22 42 (mb 45 8388607) HT_ rfl rfl ?_;refine pU 23 43 (mb 45 16777215) HT_ rfl rfl ?_;refine pU 24 44 (mb 45 33554431) HT_ rfl rfl ?_;refine pU 25 45 (mb 45 67108863) HT_ rfl rfl ?_;refine pU 26 46 (mb 45 134217727) HT_ rfl rfl ?_;refine pU 27 47 (mb 45 268435455) HT_ rfl rfl ?_;refine pA 28 48 (mb 45 536870911) HT_ rfl rfl ?_;refine pA 29 49 (mb 45 1073741823) HT_ rfl rfl ?_;refine pU 30 50 (mb 45 2147483647) HT_ rfl rfl ?_;refine pU 31 51 (mb 45 4294967295) HT_ rfl rfl ?_;refine pU 32 52 (mb 45 8589934591) HT_ rfl rfl ?_;refine pU 33 53 (mb 45 17179869183) HT_ rfl rfl ?_;refine pU 34 54 (mb 45 34359738367) HT_ rfl rfl ?_;refine pU 35 55 (mb 45 68719476735) HT_ rfl rfl ?_;refine pU 36 56 (mb 45 137438953471) HT_ rfl rfl ?_;refine pU 37 57 (mb 45 274877906943) HT_ rfl rfl ?_;refine pU 38 58 (mb 45 549755813887) HT_ rfl rfl ?_;refine pU 39 59 (mb 45 1099511627775) HT_ rfl rfl ?_;refine pU 40 60 (mb 45 2199023255551) HT_ rfl rfl ?_;refine pU 41 61 (mb 45 4398046511103) HT_ rfl rfl ?_;refine pU 42 62 (mb 45 8796093022207) HT_ rfl rfl ?_;refine pU 43 63 (mb 45 17592186044415) HT_ rfl rfl ?_;refine pA 44 64 (mb 45 35184372088831) HT_ rfl rfl ?_;refine done_ (done_of HT_.out (by kernel_rfl)) ?_
                try go_wp2
                go_ret
                exact ⟨rW, eB⟩
            · rw [if_neg c11] at H;exact absurd H (by simp)
          · rw [if_neg c10] at H;exact absurd H (by simp)
        · rw [if_neg c9] at H;have c9b0 : decide (x5_1 < (l0_0.length : Int)) = false := decide_eq_false c9;clear c9;obtain rfl := Option.some.inj H;have hnb29 := eq_false NB158_159.out;have hnc29 := eq_false NB159_158.out;have hcz30_0 : wr.cell? ⟨gb158, 0, none⟩ = some (.slice A0_0 l0_0.length c0_0) := (blk_cell BK158.out 0).trans rfl;have hfz30_0 := blk_frozen BK158.out 0
          go_wp2
          go_ret
          exact ⟨rW, eB⟩
  · rw [if_neg c3] at H;have c3b0 : ((l0_0.length : Int) == (l1_0.length : Int)) = false := beq_eq_false_iff_ne.mpr c3;have c3b1 : ((l0_0.length : Int) != (l1_0.length : Int)) = true := bne_iff_ne.mpr c3;have c3b2 : (l0_0.length == l1_0.length) = false := (by first|simpa using c3|(simp at c3 ⊢;omega));obtain rfl := Option.some.inj H
    go_enter Try.func24, Try.ntmps24
    go_wp2_with (first|((with_reducible refine gate_dst (N := 2) rfl ?_);refine bE 2 #[.slice A0_0 l0_0.length c0_0] 36 ?_;intro gb158 hg w31 hbox hb;have BK158 := Aside0.mk (hbox);have GW158 := gBe HB hg;have GE158 := gBe HB hg;replace HB := sBe HB hb;clear hb hbox hg)|((with_reducible refine gate_dst (N := 3) rfl ?_);refine bE 3 #[.slice A1_0 l1_0.length c1_0] 36 ?_;intro gb159 hg w32 hbox hb;have BK159 := Aside0.mk (hbox);have GW159 := gBe HB hg;have GE159 := gBe HB hg;have NB158_159 := nL BK158 hg;have NB159_158 := nG BK158 hg;replace BK158 := lJ BK158 hb;replace HB := sBe HB hb;clear hb hbox hg;have hnb33 := eq_false NB158_159.out;have hnc33 := eq_false NB159_158.out;have hcz34_0 := hC BK158 0 (.slice A0_0 l0_0.length c0_0);have hfz34_0 := blk_frozen BK158.out 0;have hcz35_0 := hC BK159 0 (.slice A1_0 l1_0.length c1_0);have hfz35_0 := blk_frozen BK159.out 0))
    go_ret
    exact ⟨rW, eB⟩

end Go.Proofs.Ytifkadmljokffaa.PB
