/- Printed by a program of this session out of the translation: Lean functions for Go functions, and proofs that the Go functions answer the same. -/
import Derived.Test.YtifkadmljokffaaPX0
import Derived.Test.YtifkadmljokffaaPX4
namespace Go.Proofs.Ytifkadmljokffaa.PX
open Go.RowKit Go.Proofs.Ytifkadmljokffaa.Pre Go.Proofs.YtifkadmljokffaaW.PrintWords Go.Proofs.YtifkadmljokffaaW.PrintLast Go.Proofs.YtifkadmljokffaaW.PrintMore
attribute [local go_sem] max2_int min2_int max_two min_two max_three min_three max_four min_four   -- for this text's walks alone
set_option linter.unusedVariables false
set_option linter.unusedSimpArgs false

/-! ### changeforgeref1_LinesFault_0: function 48 -/
mutual
def changeforgeref1_LinesFault_0.l0 : Nat → List ByteArray → Int → Option (Int × Int)
  | 0, _, _ => none
  | k + 1, x0, x3 => if x3 < (x0.length : Int) then (if 0 ≤ x3 then (if ((rdOf ByteArray.empty x0 x3).size : Int) > 80 then ((changeforgeref1_At.f 2 x3).bind fun bt131 => (some (bt131.1, bt131.2))) else (changeforgeref1_LinesFault_0.l1 k x0 x3 0)) else (none)) else (some (0, 0))
def changeforgeref1_LinesFault_0.l1 : Nat → List ByteArray → Int → Int → Option (Int × Int)
  | 0, _, _, _ => none
  | k + 1, x0, x3, x4 => if 0 ≤ x3 then (if x3 < (x0.length : Int) then (if x4 < ((rdOf ByteArray.empty x0 x3).size : Int) then (if 0 ≤ x4 then (if (bt (rdOf ByteArray.empty x0 x3) x4) = 10 then ((changeforgeref1_At.f 5 x3).bind fun bt135 => (some (bt135.1, bt135.2))) else (changeforgeref1_LinesFault_0.l1 k x0 x3 (wrap64 (x4 + 1)))) else (none)) else (changeforgeref1_LinesFault_0.l0 k x0 (wrap64 (x3 + 1)))) else (none)) else (none)
end
def changeforgeref1_LinesFault_0.f (k : Nat) (l0 : List ByteArray) : Option (Int × Int) := if (l0.length : Int) > 120 then ((changeforgeref1_At.f 2 (-1)).bind fun bt128 => (some (bt128.1, bt128.2))) else (changeforgeref1_LinesFault_0.l0 k l0 0)
theorem changeforgeref1_LinesFault_0.mono_l : ∀ k, (∀ y0 y1, LeO (changeforgeref1_LinesFault_0.l0 k y0 y1) (changeforgeref1_LinesFault_0.l0 (k + 1) y0 y1)) ∧ (∀ y0 y1 y2, LeO (changeforgeref1_LinesFault_0.l1 k y0 y1 y2) (changeforgeref1_LinesFault_0.l1 (k + 1) y0 y1 y2))
  | 0 => ⟨fun _ _ r h => by simp [changeforgeref1_LinesFault_0.l0] at h, fun _ _ _ r h => by simp [changeforgeref1_LinesFault_0.l1] at h⟩
  | k + 1 => by
    obtain ⟨ih0, ih1⟩ := changeforgeref1_LinesFault_0.mono_l k;refine ⟨?_, ?_⟩
    · intro y0 y1
      unfold changeforgeref1_LinesFault_0.l0
      repeat' first
      | (with_reducible exact ih0 _ _)
      | (with_reducible exact ih1 _ _ _)
      | (with_reducible exact LeO.refl _)
      | (with_reducible exact LeO.none _)
      | (with_reducible refine LeO.ite ?_ ?_)
      | (with_reducible refine LeO.bind ?_ (fun _ => ?_))
      | exact ih0 _ _
      | exact ih1 _ _ _
      | exact LeO.none _
      | refine LeO.ite ?_ ?_
      | refine LeO.bind ?_ (fun _ => ?_)
    · intro y0 y1 y2
      unfold changeforgeref1_LinesFault_0.l1
      repeat' first
      | (with_reducible exact ih0 _ _)
      | (with_reducible exact ih1 _ _ _)
      | (with_reducible exact LeO.refl _)
      | (with_reducible exact LeO.none _)
      | (with_reducible refine LeO.ite ?_ ?_)
      | (with_reducible refine LeO.bind ?_ (fun _ => ?_))
      | exact ih0 _ _
      | exact ih1 _ _ _
      | exact LeO.none _
      | refine LeO.ite ?_ ?_
      | refine LeO.bind ?_ (fun _ => ?_)
theorem changeforgeref1_LinesFault_0.mono : ∀ a0 k, LeO (changeforgeref1_LinesFault_0.f k a0) (changeforgeref1_LinesFault_0.f (k + 1) a0) := by
  intro a0 k
  obtain ⟨ih0, ih1⟩ := changeforgeref1_LinesFault_0.mono_l k
  unfold changeforgeref1_LinesFault_0.f
  repeat' first
      | (with_reducible exact ih0 _ _)
      | (with_reducible exact ih1 _ _ _)
      | (with_reducible exact LeO.refl _)
      | (with_reducible exact LeO.none _)
      | (with_reducible refine LeO.ite ?_ ?_)
      | (with_reducible refine LeO.bind ?_ (fun _ => ?_))
      | exact ih0 _ _
      | exact ih1 _ _ _
      | exact LeO.none _
      | refine LeO.ite ?_ ?_
      | refine LeO.bind ?_ (fun _ => ?_)
set_option maxHeartbeats 8000000 in
set_option maxRecDepth 100000 in
theorem changeforgeref1_LinesFault_0.calls (k : Nat) (A0 : Option Addr) (c0 : Nat) (l0 : List ByteArray) (r1 : Int) (r2 : Int) (w : World) (hr0 : Kd.C Kd.string w A0 l0.length l0) (hc0 : l0.length ≤ c0) (h : changeforgeref1_LinesFault_0.f k l0 = some (r1, r2)) :
    Calls Try.prog 48 #[.slice A0 l0.length c0] w fun e w' => e = .returned (.agg #[.int .i64 r1, .int .i64 r2]) ∧ Below w.heap.size w w' := by
  have hu24 := Try.underlying24;have HR0 := Aside0.mk hr0;have HC0 := Aside0.mk hc0;clear hr0 hc0;have HB := Aside0.mk (Below.refl w.heap.size w);have H : (if (l0.length : Int) > 120 then ((changeforgeref1_At.f 2 (-1)).bind fun bt128 => (some (bt128.1, bt128.2))) else (changeforgeref1_LinesFault_0.l0 k l0 0)) = some (r1, r2) := h;clear h
  by_cases c2 : (l0.length : Int) > 120
  · rw [if_pos c2] at H;have c2b0 : decide (120 < (l0.length : Int)) = true := decide_eq_true c2;have c2b1 : decide (120 < l0.length) = true := decide_eq_true (by omega);clear c2;replace H := Option.bind_eq_some_iff.mp H;obtain ⟨⟨t128, t129⟩, A30, H⟩ := H;replace H : (some (t128, t129)) = some (r1, r2) := H;have A3 := Aside0.mk A30;clear A30;simp only [Option.some.injEq, Prod.mk.injEq] at H;obtain ⟨rfl, rfl⟩ := H
    go_enter Try.func48, Try.ntmps48
    go_wp2_with (first|((with_reducible refine gate_dst (N := 2) rfl ?_);refine bE 2 #[.int .i64 0, .int .i64 0] 24 ?_;intro gb127 hg w4 hbox hb;have BK127 := Aside0.mk (hbox);have GW127 := gBe HB hg;have GE127 := gBe HB hg;replace HB := sBe HB hb;clear hb hbox hg)|((with_reducible refine gate_callee (f := 36) rfl ?_);refine goesL_ (some 8) rfl rfl Try.func36 (by kernel_rfl) rfl #[.int .i64 2, .int .i64 (-1)] rfl mA ?_;(with_reducible refine (changeforgeref1_At.calls 2 (-1) t128 t129 _ A3.out).mono ?_);rintro e w5 ⟨rfl, hb⟩;refine ⟨_, rfl, ?_⟩;replace BK127 := lJ BK127 hb;replace HB := sBe HB hb;(try clear hb);have hcz6_0 := hC BK127 0 (.int .i64 0);have hcz6_1 := hC BK127 1 (.int .i64 0);have hfz6_0 := blk_frozen BK127.out 0;have hfz6_1 := blk_frozen BK127.out 1))
    refine bodyPost_ret (results_cell_row rfl _ _ gb127 24 #[.int .i64 t128, .int .i64 t129] (0, 0) _ rfl kK Try.underlying24 rfl (by kernel_rfl)) rfl ?_;exact ⟨rW, eB⟩
  · rw [if_neg c2] at H;have c2b0 : decide (120 < (l0.length : Int)) = false := decide_eq_false c2;have c2b1 : decide (120 < l0.length) = false := decide_eq_false (by omega);clear c2;have H' := Aside0.mk H;clear H
    go_enter Try.func48, Try.ntmps48
    go_wp2_with (first|((with_reducible refine gate_dst (N := 2) rfl ?_);refine bE 2 #[.int .i64 0, .int .i64 0] 24 ?_;intro gb127 hg w7 hbox hb;have BK127 := Aside0.mk (hbox);have GW127 := gBe HB hg;have GE127 := gBe HB hg;replace HB := sBe HB hb;clear hb hbox hg))
    go_loopg [3] k (fun kq v3 w' => ∃ (x3_1 : Int) (x128000_1 : Int) (x128001_1 : Int), v3 = .int .i64 x3_1 ∧ Aside0 (changeforgeref1_LinesFault_0.l0 kq l0 x3_1 = some (r1, r2)) ∧ Aside0 (kq ≤ k) ∧ Bk w' gb127 24 #[.int .i64 x128000_1, .int .i64 x128001_1] ∧ Aside0 (Below w.heap.size w w'))
    case atStart => exact ⟨(0), (0), (0), (by first|rfl|(simp only [i64_w, i32_w];done)|(simp only [i64_w, i32_w];rfl)|(simp;done)|(simp [*];done)), H', ⟨Nat.le_refl _⟩, ⟨kK⟩, ⟨eB⟩⟩
    case round =>
      clear H'
      try clear c2
      try clear c2b0
      try clear c2b1
      try clear p2
      try clear c3
      try clear c4
      try clear hcz6_0
      try clear hcz6_1
      try clear hfz6_0
      try clear hfz6_1
      obtain ⟨x3_1, x128000_1, x128001_1, rfl, HA, HK1, BK127, HB⟩ := hrel
      cases gk with
      | zero => exact absurd HA.out (by simp [changeforgeref1_LinesFault_0.l0])
      | succ k1 =>
        have H := HA.out;clear HA;simp only [changeforgeref1_LinesFault_0.l0] at H
        by_cases c8 : x3_1 < (l0.length : Int)
        · rw [if_pos c8] at H;have c8b0 : decide (x3_1 < (l0.length : Int)) = true := decide_eq_true c8;clear c8
          by_cases c9 : 0 ≤ x3_1
          · rw [if_pos c9] at H;have c9b0 : decide (0 ≤ x3_1) = true := decide_eq_true c9;clear c9
            by_cases c10 : ((rdOf ByteArray.empty l0 x3_1).size : Int) > 80
            · rw [if_pos c10] at H;have c10b0 : decide (80 < ((rdOf ByteArray.empty l0 x3_1).size : Int)) = true := decide_eq_true c10;have c10b1 : decide (80 < (rdOf ByteArray.empty l0 x3_1).size) = true := decide_eq_true (by omega);clear c10;replace H := Option.bind_eq_some_iff.mp H;obtain ⟨⟨t131, t132⟩, A110, H⟩ := H;replace H : (some (t131, t132)) = some (r1, r2) := H;have A11 := Aside0.mk A110;clear A110;simp only [Option.some.injEq, Prod.mk.injEq] at H;obtain ⟨rfl, rfl⟩ := H;have p130 : 0 ≤ (x3_1 : Int) := dA;have q130 : x3_1 < (l0.length : Int) := dA;obtain ⟨ad130, e130, hx130_0⟩ := Kd.at_string HR0.out x3_1 p130 q130
              cases e130
              replace hx130_0 := (hX HB hx130_0:);replace p130 := eq_true p130;replace q130 := eq_true q130
              go_wp2_with (first|((with_reducible refine gate_callee (f := 36) rfl ?_);refine goesL_ (some 22) rfl rfl Try.func36 (by kernel_rfl) rfl #[.int .i64 2, .int .i64 x3_1] rfl mA ?_;(with_reducible refine (changeforgeref1_At.calls 2 x3_1 t131 t132 _ A11.out).mono ?_);rintro e w12 ⟨rfl, hb⟩;refine ⟨_, rfl, ?_⟩;replace BK127 := lJ BK127 hb;replace HB := sBe HB hb;(try clear hb);have hcz13_0 := hC BK127 0 (.int .i64 x128000_1);have hcz13_1 := hC BK127 1 (.int .i64 x128001_1);have hfz13_0 := blk_frozen BK127.out 0;have hfz13_1 := blk_frozen BK127.out 1))
              refine bodyPost_ret (results_cell_row rfl _ _ gb127 24 #[.int .i64 t131, .int .i64 t132] (0, 0) _ rfl kK Try.underlying24 rfl (by kernel_rfl)) rfl ?_;exact ⟨rW, eB⟩
            · rw [if_neg c10] at H;have c10b0 : decide (80 < ((rdOf ByteArray.empty l0 x3_1).size : Int)) = false := decide_eq_false c10;have c10b1 : decide (80 < (rdOf ByteArray.empty l0 x3_1).size) = false := decide_eq_false (by omega);clear c10;have H' := Aside0.mk H;clear H;have p130 : 0 ≤ (x3_1 : Int) := dA;have q130 : x3_1 < (l0.length : Int) := dA;obtain ⟨ad130, e130, hx130_0⟩ := Kd.at_string HR0.out x3_1 p130 q130
              cases e130
              replace hx130_0 := (hX HB hx130_0:);replace p130 := eq_true p130;replace q130 := eq_true q130
              go_wp2
              go_loopg [4] k1 (fun kq v4 w' => ∃ (x4_2 : Int) (x128000_2 : Int) (x128001_2 : Int), v4 = .int .i64 x4_2 ∧ Aside0 (changeforgeref1_LinesFault_0.l1 kq l0 x3_1 x4_2 = some (r1, r2)) ∧ Aside0 (kq ≤ k1) ∧ Bk w' gb127 24 #[.int .i64 x128000_2, .int .i64 x128001_2] ∧ Aside0 (Below w.heap.size w w'))
              case atStart => exact ⟨(0), (x128000_1), (x128001_1), (by first|rfl|(simp only [i64_w, i32_w];done)|(simp only [i64_w, i32_w];rfl)|(simp;done)|(simp [*];done)), H', ⟨Nat.le_refl _⟩, ⟨kK⟩, ⟨eB⟩⟩
              case round =>
                clear H'
                try clear c1
                try clear p1
                try clear q1
                try clear hx1
                try clear c2
                try clear c2b0
                try clear c2b1
                try clear p2
                try clear c3
                try clear c4
                try clear c8
                try clear c8b0
                try clear c9
                try clear c9b0
                try clear c10
                try clear c10b0
                try clear c10b1
                try clear p13
                try clear q13
                try clear hx13
                try clear hcz13_0
                try clear hcz13_1
                try clear hcz6_0
                try clear hcz6_1
                try clear hfz13_0
                try clear hfz13_1
                try clear hfz6_0
                try clear hfz6_1
                try clear hx130_0
                try clear p130
                try clear p2
                try clear q130
                obtain ⟨x4_2, x128000_2, x128001_2, rfl, HA, HK2, BK127, HB⟩ := hrel
                cases gk with
                | zero => exact absurd HA.out (by simp [changeforgeref1_LinesFault_0.l1])
                | succ k2 =>
                  have H := HA.out;clear HA;simp only [changeforgeref1_LinesFault_0.l1] at H
                  by_cases c14 : 0 ≤ x3_1
                  · rw [if_pos c14] at H;have c14b0 : decide (0 ≤ x3_1) = true := decide_eq_true c14;clear c14
                    by_cases c15 : x3_1 < (l0.length : Int)
                    · rw [if_pos c15] at H;have c15b0 : decide (x3_1 < (l0.length : Int)) = true := decide_eq_true c15;clear c15
                      by_cases c16 : x4_2 < ((rdOf ByteArray.empty l0 x3_1).size : Int)
                      · rw [if_pos c16] at H;have c16b0 : decide (x4_2 < ((rdOf ByteArray.empty l0 x3_1).size : Int)) = true := decide_eq_true c16;clear c16
                        by_cases c17 : 0 ≤ x4_2
                        · rw [if_pos c17] at H;have c17b0 : decide (0 ≤ x4_2) = true := decide_eq_true c17;clear c17
                          by_cases c19 : (bt (rdOf ByteArray.empty l0 x3_1) x4_2) = 10
                          · rw [if_pos c19] at H;have c19b0 : ((bt (rdOf ByteArray.empty l0 x3_1) x4_2) == 10) = true := beq_iff_eq.mpr c19;have c19b1 : ((bt (rdOf ByteArray.empty l0 x3_1) x4_2) != 10) = false := bne_eq_false_iff_eq.mpr c19;clear c19;replace H := Option.bind_eq_some_iff.mp H;obtain ⟨⟨t135, t136⟩, A200, H⟩ := H;replace H : (some (t135, t136)) = some (r1, r2) := H;have A20 := Aside0.mk A200;clear A200;simp only [Option.some.injEq, Prod.mk.injEq] at H;obtain ⟨rfl, rfl⟩ := H;have p133 : 0 ≤ (x3_1 : Int) := dA;have q133 : x3_1 < (l0.length : Int) := dA;obtain ⟨ad133, e133, hx133_0⟩ := Kd.at_string HR0.out x3_1 p133 q133;obtain rfl : ad130 = ad133 := (by injection e133);replace hx133_0 := (hX HB hx133_0:);replace p133 := eq_true p133;replace q133 := eq_true q133;have p134 : 0 ≤ (x3_1 : Int) := dA;have q134 : x3_1 < (l0.length : Int) := dA;obtain ⟨ad134, e134, hx134_0⟩ := Kd.at_string HR0.out x3_1 p134 q134;obtain rfl : ad130 = ad134 := (by injection e134);replace hx134_0 := (hX HB hx134_0:);replace p134 := eq_true p134;replace q134 := eq_true q134;have p18 : 0 ≤ (x4_2 : Int) := dA;have q18 : x4_2 < ((rdOf ByteArray.empty l0 x3_1).size : Int) := dA;have hx18 := bt_at (rdOf ByteArray.empty l0 x3_1) x4_2;replace p18 := eq_true p18;replace q18 := eq_true q18
                            go_wp2_with (first|((with_reducible refine gate_callee (f := 36) rfl ?_);refine goesL_ (some 40) rfl rfl Try.func36 (by kernel_rfl) rfl #[.int .i64 5, .int .i64 x3_1] rfl mA ?_;(with_reducible refine (changeforgeref1_At.calls 5 x3_1 t135 t136 _ A20.out).mono ?_);rintro e w21 ⟨rfl, hb⟩;refine ⟨_, rfl, ?_⟩;replace BK127 := lJ BK127 hb;replace HB := sBe HB hb;(try clear hb);have hcz22_0 := hC BK127 0 (.int .i64 x128000_2);have hcz22_1 := hC BK127 1 (.int .i64 x128001_2);have hfz22_0 := blk_frozen BK127.out 0;have hfz22_1 := blk_frozen BK127.out 1))
                            refine bodyPost_ret (results_cell_row rfl _ _ gb127 24 #[.int .i64 t135, .int .i64 t136] (0, 0) _ rfl kK Try.underlying24 rfl (by kernel_rfl)) rfl ?_;exact ⟨rW, eB⟩
                          · rw [if_neg c19] at H;have c19b0 : ((bt (rdOf ByteArray.empty l0 x3_1) x4_2) == 10) = false := beq_eq_false_iff_ne.mpr c19;have c19b1 : ((bt (rdOf ByteArray.empty l0 x3_1) x4_2) != 10) = true := bne_iff_ne.mpr c19;have H' := Aside0.mk H;clear H;have p133 : 0 ≤ (x3_1 : Int) := dA;have q133 : x3_1 < (l0.length : Int) := dA;obtain ⟨ad133, e133, hx133_0⟩ := Kd.at_string HR0.out x3_1 p133 q133;obtain rfl : ad130 = ad133 := (by injection e133);replace hx133_0 := (hX HB hx133_0:);replace p133 := eq_true p133;replace q133 := eq_true q133;have p134 : 0 ≤ (x3_1 : Int) := dA;have q134 : x3_1 < (l0.length : Int) := dA;obtain ⟨ad134, e134, hx134_0⟩ := Kd.at_string HR0.out x3_1 p134 q134;obtain rfl : ad130 = ad134 := (by injection e134);replace hx134_0 := (hX HB hx134_0:);replace p134 := eq_true p134;replace q134 := eq_true q134;have p18 : 0 ≤ (x4_2 : Int) := dA;have q18 : x4_2 < ((rdOf ByteArray.empty l0 x3_1).size : Int) := dA;have hx18 := bt_at (rdOf ByteArray.empty l0 x3_1) x4_2;replace p18 := eq_true p18;replace q18 := eq_true q18
                            go_wp2
                            go_roundg k2
                            case measure => have := HK1.out;have := HK2.out;omega
                            case rel => exact ⟨(wrap64 (x4_2 + 1)), (x128000_2), (x128001_2), (by first|rfl|(simp only [i64_w, i32_w];done)|(simp only [i64_w, i32_w];rfl)|(simp;done)|(simp [*];done)), H', ⟨by have := HK1.out;have := HK2.out;omega⟩, ⟨kK⟩, ⟨eB⟩⟩
                        · rw [if_neg c17] at H;exact absurd H (by simp)
                      · rw [if_neg c16] at H;have c16b0 : decide (x4_2 < ((rdOf ByteArray.empty l0 x3_1).size : Int)) = false := decide_eq_false c16;clear c16;have H' := Aside0.mk H;clear H;have p133 : 0 ≤ (x3_1 : Int) := dA;have q133 : x3_1 < (l0.length : Int) := dA;obtain ⟨ad133, e133, hx133_0⟩ := Kd.at_string HR0.out x3_1 p133 q133;obtain rfl : ad130 = ad133 := (by injection e133);replace hx133_0 := (hX HB hx133_0:);replace p133 := eq_true p133;replace q133 := eq_true q133
                        go_wp2
                        go_roundg k2
                        case measure => have := HK1.out;have := HK2.out;omega
                        case rel => exact ⟨(wrap64 (x3_1 + 1)), (x128000_2), (x128001_2), (by first|rfl|(simp only [i64_w, i32_w];done)|(simp only [i64_w, i32_w];rfl)|(simp;done)|(simp [*];done)), H', ⟨by have := HK1.out;have := HK2.out;omega⟩, ⟨kK⟩, ⟨eB⟩⟩
                    · rw [if_neg c15] at H;exact absurd H (by simp)
                  · rw [if_neg c14] at H;exact absurd H (by simp)
          · rw [if_neg c9] at H;exact absurd H (by simp)
        · rw [if_neg c8] at H;have c8b0 : decide (x3_1 < (l0.length : Int)) = false := decide_eq_false c8;clear c8;simp only [Option.some.injEq, Prod.mk.injEq] at H;obtain ⟨rfl, rfl⟩ := H;have hcz23_0 : wr.cell? ⟨gb127, 0, none⟩ = some (.int .i64 x128000_1) := (blk_cell BK127.out 0).trans rfl;have hcz23_1 : wr.cell? ⟨gb127, 1, none⟩ = some (.int .i64 x128001_1) := (blk_cell BK127.out 1).trans rfl;have hfz23_0 := blk_frozen BK127.out 0;have hfz23_1 := blk_frozen BK127.out 1
          go_wp2
          refine bodyPost_ret (results_cell_row rfl _ _ gb127 24 #[.int .i64 0, .int .i64 0] (0, 0) _ rfl kK Try.underlying24 rfl (by kernel_rfl)) rfl ?_;exact ⟨rW, eB⟩

/-! ### changeforgeref1_LinesFault: function 48 -/
theorem changeforgeref1_LinesFault_0.line (l : List ByteArray) (i : Nat) (hi : i < l.length) (hl : l.length ≤ 120) (hs : (rdOf ByteArray.empty l (i : Int)).size ≤ 80) (d : Nat) : ∀ (k j : Nat), j ≤ (rdOf ByteArray.empty l (i : Int)).size → (rdOf ByteArray.empty l (i : Int)).size - j = d → d < k →
    changeforgeref1_LinesFault_0.l1 k l (i : Int) (j : Int) = if ((rdOf ByteArray.empty l (i : Int)).data.toList.drop j).contains 10 = true then some (5, (i : Int)) else changeforgeref1_LinesFault_0.l0 (k - 1 - d) l ((i : Int) + 1) := by
  generalize hx : rdOf ByteArray.empty l (i : Int) = s at *
  induction d with
  | zero =>
    intro k j hj hd hk
    obtain ⟨k, rfl⟩ : ∃ m, k = m + 1 := ⟨k - 1, by omega⟩
    simp only [changeforgeref1_LinesFault_0.l1, hx]
    rw [if_pos (by omega), if_pos (by omega), if_neg (by omega), List.drop_eq_nil_of_le (by rw [data_length]; omega), w64 (by omega) (by omega)]
    simp
  | succ d ih =>
    intro k j hj hd hk
    obtain ⟨k, rfl⟩ : ∃ m, k = m + 1 := ⟨k - 1, by omega⟩
    obtain ⟨c, hc, hdr⟩ := bt_drop s j (by omega)
    simp only [changeforgeref1_LinesFault_0.l1, hx]
    rw [if_pos (by omega), if_pos (by omega), if_pos (by omega), if_pos (by omega), hc, hdr]
    by_cases e : c = 10
    · subst e
      rw [if_pos (by decide)]
      simp [changeforgeref1_At.f]
    · have e' : ¬ (c.toNat : Int) = 10 := fun h => e (by
        have : c.toNat = 10 := by omega
        exact UInt8.toNat_inj.mp (by rw [this]; rfl))
      rw [if_neg e', w64 (by omega) (by omega)]
      have := ih k (j + 1) (by omega) (by omega) (by omega)
      rw [Int.natCast_add] at this
      rw [show (((1 : Nat) : Int)) = 1 from rfl] at this
      rw [this, List.contains_cons, show ((10 : UInt8) == c) = false by simpa using fun h => e h.symm, Bool.false_or, show k + 1 - 1 - (d + 1) = k - 1 - d by omega]
theorem changeforgeref1_LinesFault_0.loop (l : List ByteArray) (hl : l.length ≤ 120) (d : Nat) : ∀ (k i : Nat), i ≤ l.length → l.length - i = d → 100 * d < k → changeforgeref1_LinesFault_0.l0 k l (i : Int) = some (faultAt (l.drop i) (i : Int)) := by
  induction d with
  | zero =>
    intro k i hi hd hk
    obtain ⟨k, rfl⟩ : ∃ m, k = m + 1 := ⟨k - 1, by omega⟩
    simp only [changeforgeref1_LinesFault_0.l0]
    rw [if_neg (by omega), List.drop_eq_nil_of_le (by omega)]
    rfl
  | succ d ih =>
    intro k i hi hd hk
    obtain ⟨k, rfl⟩ : ∃ m, k = m + 1 := ⟨k - 1, by omega⟩
    rw [rdOf_drop ByteArray.empty l i (by omega)]
    have hline := changeforgeref1_LinesFault_0.line l i (by omega) hl
    generalize hs : rdOf ByteArray.empty l (i : Int) = s at *
    simp only [changeforgeref1_LinesFault_0.l0, hs]
    rw [if_pos (by omega), if_pos (by omega)]
    simp only [faultAt]
    by_cases h1 : 80 < s.size
    · rw [if_pos (by omega), if_pos h1]
      rfl
    · rw [if_neg (by omega), if_neg h1]
      have := hline (by omega) s.size k 0 (by omega) (by omega) (by omega)
      rw [show ((0 : Nat) : Int) = 0 from rfl, List.drop_zero] at this
      rw [this]
      show (if hasNl s = true then _ else _) = _
      by_cases h2 : hasNl s = true
      · rw [if_pos h2, if_pos h2]
      · rw [if_neg h2, if_neg h2]
        have := ih (k - 1 - s.size) (i + 1) (by omega) (by omega) (by omega)
        rw [Int.natCast_add] at this
        exact this
def changeforgeref1_LinesFault.f (l0 : List ByteArray) : Option (Int × Int) :=  some (linesFault l0)
theorem changeforgeref1_LinesFault.calls (A0 : Option Addr) (c0 : Nat) (l0 : List ByteArray) (r1 : Int) (r2 : Int) (w : World) (hr0 : Kd.C Kd.string w A0 l0.length l0) (hc0 : l0.length ≤ c0) (h : changeforgeref1_LinesFault.f l0 = some (r1, r2)) :
    Calls Try.prog 48 #[.slice A0 l0.length c0] w fun e w' => e = .returned (.agg #[.int .i64 r1, .int .i64 r2]) ∧ Below w.heap.size w w' := by
  have h' : changeforgeref1_LinesFault_0.f 12001 l0 = some (r1, r2) := by
    rw [← h]
    unfold changeforgeref1_LinesFault_0.f changeforgeref1_LinesFault.f linesFault
    by_cases c : 120 < l0.length
    · rw [if_pos (by omega), if_pos c]
      rfl
    · rw [if_neg (by omega), if_neg c]
      exact changeforgeref1_LinesFault_0.loop l0 (by omega) l0.length 12001 0 (by omega) (by omega) (by omega)
  exact (changeforgeref1_LinesFault_0.calls (12001) A0 c0 l0 r1 r2 w hr0 hc0 (h'))


/-! ### changeforgeref1_LinesCode_0: function 49 -/
def changeforgeref1_LinesCode_0.f (l0 : List ByteArray) : Option (Int) := (changeforgeref1_LinesFault.f l0).bind fun bt137 => (some bt137.1)
set_option maxHeartbeats 8000000 in
set_option maxRecDepth 100000 in
theorem changeforgeref1_LinesCode_0.calls (A0 : Option Addr) (c0 : Nat) (l0 : List ByteArray) (r : Int) (w : World) (hr0 : Kd.C Kd.string w A0 l0.length l0) (hc0 : l0.length ≤ c0) (h : changeforgeref1_LinesCode_0.f l0 = some r) :
    Calls Try.prog 49 #[.slice A0 l0.length c0] w fun e w' => e = .returned (.int .i64 r) ∧ Below w.heap.size w w' := by
  have hu24 := Try.underlying24
  have HR0 := Aside0.mk hr0
  have HC0 := Aside0.mk hc0
  clear hr0 hc0
  have HB := Aside0.mk (Below.refl w.heap.size w)
  have H : ((changeforgeref1_LinesFault.f l0).bind fun bt137 => (some bt137.1)) = some r := h
  clear h
  replace H := Option.bind_eq_some_iff.mp H
  obtain ⟨⟨t137, t138⟩, A20, H⟩ := H
  replace H : (some t137) = some r := H
  have A2 := Aside0.mk A20
  clear A20
  obtain rfl := Option.some.inj H
  have hfd24_0_ := fun (a0_ a1_ : Int) (w_ : World) => (show (Instr.field 24 (.agg #[.int .i64 a0_, .int .i64 a1_]) 0).run Try.prog w_ = .ok (.int .i64 a0_) w_ by kernel_rfl)
  go_enter Try.func49, Try.ntmps49
  go_wp2_with (first | ((with_reducible refine gate_callee (f := 48) rfl ?_); refine goesL_ (some 4) rfl rfl Try.func48 (by kernel_rfl) rfl #[.slice A0 l0.length c0] rfl (by (try simp only [List.map_toArray, List.map_cons, List.map_nil]); first | done | rfl | (simp only [List.length_drop, List.length_take]; rfl)) ?_; (with_reducible refine (changeforgeref1_LinesFault.calls _ _ l0 t137 t138 _ ?side1 ?side2 A2.out).mono ?_); (case side1 => repeat (first | exact HR0.out | (with_reducible refine Kd.C_alloc ?_ _) | (with_reducible refine Kd.C_drewN ?_ _) | (with_reducible refine Kd.C_drew ?_))); (case side2 => exact HC0.out); rintro e w3 ⟨rfl, hb⟩; refine ⟨_, rfl, ?_⟩; have n0_ := Aside0.mk (below_step (by repeat (first | (with_reducible first | exact HB.out | apply below_alloc | apply pw_below_drewN | apply below_drew1) | exact HB.out)) hb); clear HB; have HB := n0_; clear n0_; (try clear hb); (try clear hb2); (try clear hk); (try clear hi)))
  go_ret
  exact ⟨by first | rfl | (simp [errW_none, errW_some] <;> rfl) | (simp [*, errW_none, errW_some] <;> rfl), by repeat (first | (with_reducible first | exact HB.out | apply below_alloc | apply pw_below_drewN | apply below_drew1) | exact HB.out)⟩

/-! ### changeforgeref1_LinesCode: function 49 -/
def changeforgeref1_LinesCode.f (l0 : List ByteArray) : Option (Int) :=  some (linesFault l0).1
theorem changeforgeref1_LinesCode.calls (A0 : Option Addr) (c0 : Nat) (l0 : List ByteArray) (r : Int) (w : World) (hr0 : Kd.C Kd.string w A0 l0.length l0) (hc0 : l0.length ≤ c0) (h : changeforgeref1_LinesCode.f l0 = some r) :
    Calls Try.prog 49 #[.slice A0 l0.length c0] w fun e w' => e = .returned (.int .i64 r) ∧ Below w.heap.size w w' := by
  have h' : changeforgeref1_LinesCode_0.f l0 = some r := h
  exact (changeforgeref1_LinesCode_0.calls A0 c0 l0 r w hr0 hc0 (h'))


/-! ### changeforgeref1_One: function 35 -/
def changeforgeref1_One.f (a0 : ByteArray) : Option (Int) := (changeforgeref1_LinesCode.f (([a0] : List ByteArray))).bind fun t142 => (some t142)
set_option maxHeartbeats 8000000 in
set_option maxRecDepth 100000 in
theorem changeforgeref1_One.calls (a0 : ByteArray) (r : Int) (w : World) (h : changeforgeref1_One.f a0 = some r) :
    Calls Try.prog 35 #[.string a0] w fun e w' => e = .returned (.int .i64 r) ∧ Below w.heap.size w w' := by
  have HB := Aside0.mk (Below.refl w.heap.size w);have H : ((changeforgeref1_LinesCode.f (([a0] : List ByteArray))).bind fun t142 => (some t142)) = some r := h;clear h;obtain ⟨y139, hy139⟩ : ∃ y_ : List ByteArray, y_ = (([a0] : List ByteArray)) := ⟨_, rfl⟩;replace H : ((changeforgeref1_LinesCode.f y139).bind fun t142 => (some t142)) = some r := (by first|(rw [hy139];with_reducible exact H)|(have H2_ := (Option.bind_some _ _).symm.trans H;rw [hy139];with_reducible exact H2_)|(have H2_ := (Option.bind_some _ _).symm.trans H;with_reducible exact H2_)|with_reducible exact H|(rw [hy139];exact H)|exact H);have Ny139 := Aside0.mk hy139;clear hy139;replace H := Option.bind_eq_some_iff.mp H;obtain ⟨t142, A20, H⟩ := H;replace H : (some t142) = some r := H;have A2 := Aside0.mk A20;clear A20;obtain rfl := Option.some.inj H
  go_enter Try.func35, Try.ntmps35
  go_wp2_with (first|((with_reducible refine gate_dst (N := 4) rfl ?_);refine Kd.R_lit Kd.string _ 9 ?hg (N := 4) ?hd (xs := ([a0] : List ByteArray)) (inner := [.string a0]) (ok := fun _ => True) (okp := fun _ => True) ?hr ?hp (fun _ hk => hk) trivial (Below.refl _ _) (Nat.le_refl _) (by simp) ?_;(case hd => rfl);(case hg => rfl);(case hr => first|(go_simp;done)|(go_simp;rfl));(case hp => exact (Reps.one (show Kd.M Kd.string _ _ _ a0 [.string a0] from rfl) (Reps.none _ _)));intro v140 w3 ho4 hb hg_ hnew_;clear hg_ hnew_;(first|rw [← Ny139.out] at ho4|(simp only [Int.reduceToNat] at ho4;rw [← Ny139.out] at ho4));have HO141 := Aside0.mk (Kd.R_lower ho4 (below_size eB));replace HB := sBe HB hb;clear hb ho4;obtain ⟨Ao5, co5, eo5⟩ := Kd.R_slice HO141.out;subst eo5)|((with_reducible refine gate_callee (f := 49) rfl ?_);refine goesL_ (some 5) rfl rfl Try.func49 (by kernel_rfl) rfl #[.slice Ao5 y139.length co5] rfl mA ?_;(with_reducible refine (changeforgeref1_LinesCode.calls _ _ y139 t142 _ ?side1 ?side2 A2.out).mono ?_);(case side1 => repeat (first|exact (Kd.R_reads' HO141.out).2.2|(with_reducible refine Kd.C_alloc ?_ _)|(with_reducible refine Kd.C_drewN ?_ _)|(with_reducible refine Kd.C_drew ?_)));(case side2 => exact (Kd.R_reads' HO141.out).2.1);rintro e w6 ⟨rfl, hb⟩;refine ⟨_, rfl, ?_⟩;replace HO141 := rL HO141 hb;replace HB := sBe HB hb;(try clear hb)))
  go_ret
  exact ⟨rW, eB⟩

/-! ### changeforgeref1_kind: function 67 -/
def changeforgeref1_kind.j0 : Nat → Int → Bool → Option (Int)
  | 0, _, _ => none
  | k + 1, x0, x8 => if x8 = true then (some 1) else (if x0 > 127 then (some 0) else (if x0 = 95 then (some 0) else (if x0 ≥ 48 then (if x0 ≤ 57 then (some 0) else (if x0 ≥ 65 then (if x0 ≤ 90 then (some 0) else (if x0 ≥ 97 then (if x0 ≤ 122 then (some 0) else (some 2)) else (some 2))) else (if x0 ≥ 97 then (if x0 ≤ 122 then (some 0) else (some 2)) else (some 2)))) else (if x0 ≥ 65 then (if x0 ≤ 90 then (some 0) else (if x0 ≥ 97 then (if x0 ≤ 122 then (some 0) else (some 2)) else (some 2))) else (if x0 ≥ 97 then (if x0 ≤ 122 then (some 0) else (some 2)) else (some 2))))))
def changeforgeref1_kind.f (k : Nat) (a0 : Int) : Option (Int) := if a0 = 32 then (changeforgeref1_kind.j0 k a0 true) else (changeforgeref1_kind.j0 k a0 (a0 == 9))
theorem changeforgeref1_kind.mono_l : ∀ k, (∀ y0 y1, LeO (changeforgeref1_kind.j0 k y0 y1) (changeforgeref1_kind.j0 (k + 1) y0 y1))
  | 0 => fun _ _ r h => by simp [changeforgeref1_kind.j0] at h
  | k + 1 => by
    have ih0 := changeforgeref1_kind.mono_l k
    · intro y0 y1
      unfold changeforgeref1_kind.j0
      repeat' first
      | (with_reducible exact ih0 _ _)
      | (with_reducible exact LeO.refl _)
      | (with_reducible exact LeO.none _)
      | (with_reducible refine LeO.ite ?_ ?_)
      | (with_reducible refine LeO.bind ?_ (fun _ => ?_))
      | exact ih0 _ _
      | exact LeO.none _
      | refine LeO.ite ?_ ?_
      | refine LeO.bind ?_ (fun _ => ?_)
theorem changeforgeref1_kind.mono : ∀ a0 k, LeO (changeforgeref1_kind.f k a0) (changeforgeref1_kind.f (k + 1) a0) := by
  intro a0 k
  have ih0 := changeforgeref1_kind.mono_l k
  unfold changeforgeref1_kind.f
  repeat' first
      | (with_reducible exact ih0 _ _)
      | (with_reducible exact LeO.refl _)
      | (with_reducible exact LeO.none _)
      | (with_reducible refine LeO.ite ?_ ?_)
      | (with_reducible refine LeO.bind ?_ (fun _ => ?_))
      | exact ih0 _ _
      | exact LeO.none _
      | refine LeO.ite ?_ ?_
      | refine LeO.bind ?_ (fun _ => ?_)
set_option maxHeartbeats 8000000 in
set_option maxRecDepth 100000 in
theorem changeforgeref1_kind.calls (k : Nat) (a0 : Int) (r : Int) (w : World) (h : changeforgeref1_kind.f k a0 = some r) :
    Calls Try.prog 67 #[.int .u8 a0] w fun e w' => e = .returned (.int .i64 r) ∧ Drawn0 w w' := by
  have H : (if a0 = 32 then (changeforgeref1_kind.j0 k a0 true) else (changeforgeref1_kind.j0 k a0 (a0 == 9))) = some r := h;clear h;have HC2 := Aside0.mk H;clear H
  go_enter Try.func67, Try.ntmps67
  go_upto_region 1 with (fail)
  go_cut [8] (fun v8 wc => ∃ (kq : Nat) (x8_1 : Bool), v8 = .bool x8_1 ∧ Aside0 (changeforgeref1_kind.j0 kq a0 x8_1 = some r) ∧ Aside0 (kq ≤ k) ∧ Drawn0 w wc)
  case first =>
    have H := HC2.out;clear HC2
    by_cases c3 : a0 = 32
    · rw [if_pos c3] at H;have c3b0 : (a0 == 32) = true := beq_iff_eq.mpr c3;have c3b1 : (a0 != 32) = false := bne_eq_false_iff_eq.mpr c3;clear c3
      (first|rw [c3b0]|(simp only [i64_w, i32_w];rw [c3b0])|skip)
      have H' := Aside0.mk H;clear H
      go_wp2
      go_meet
      case rel => exact ⟨_, (true), (by first|rfl|(simp only [i64_w, i32_w];done)|(simp only [i64_w, i32_w];rfl)|(simp;done)|(simp [*];done)), H', ⟨by first|omega|exact Nat.le_refl _⟩, by repeat (first|exact Drawn0.refl _|apply Drawn0.step)⟩
    · rw [if_neg c3] at H;have c3b0 : (a0 == 32) = false := beq_eq_false_iff_ne.mpr c3;have c3b1 : (a0 != 32) = true := bne_iff_ne.mpr c3
      (first|rw [c3b0]|(simp only [i64_w, i32_w];rw [c3b0])|skip)
      have H' := Aside0.mk H;clear H
      go_wp2
      go_meet
      case rel => exact ⟨_, ((a0 == 9)), (by first|rfl|(simp only [i64_w, i32_w];done)|(simp only [i64_w, i32_w];rfl)|(simp;done)|(simp [*];done)), H', ⟨by first|omega|exact Nat.le_refl _⟩, by repeat (first|exact Drawn0.refl _|apply Drawn0.step)⟩
  case rest =>
    clear HC2
    try clear p2
    try clear c3
    try clear c3b0
    try clear c3b1
    obtain ⟨kq, x8_1, rfl, HA, HJ1, ⟨mc1, rfl⟩⟩ := hcut
    cases kq with
    | zero => exact absurd HA.out (by simp [changeforgeref1_kind.j0])
    | succ kj1 =>
      have H := HA.out;clear HA;simp only [changeforgeref1_kind.j0] at H
      by_cases c4 : x8_1 = true
      · subst c4;have H1 : (some 1) = some r := (by rw [if_pos rfl] at H;exact H);clear H;have H := H1;clear H1;obtain rfl := Option.some.inj H
        go_wp2
        go_ret
        exact ⟨by first|rfl|(simp;done)|(simp [*];done), by repeat (first|exact Drawn0.refl _|apply Drawn0.step)⟩
      · replace c4 := Bool.eq_false_iff.mpr c4;subst c4;have H1 : (if a0 > 127 then (some 0) else (if a0 = 95 then (some 0) else (if a0 ≥ 48 then (if a0 ≤ 57 then (some 0) else (if a0 ≥ 65 then (if a0 ≤ 90 then (some 0) else (if a0 ≥ 97 then (if a0 ≤ 122 then (some 0) else (some 2)) else (some 2))) else (if a0 ≥ 97 then (if a0 ≤ 122 then (some 0) else (some 2)) else (some 2)))) else (if a0 ≥ 65 then (if a0 ≤ 90 then (some 0) else (if a0 ≥ 97 then (if a0 ≤ 122 then (some 0) else (some 2)) else (some 2))) else (if a0 ≥ 97 then (if a0 ≤ 122 then (some 0) else (some 2)) else (some 2)))))) = some r := (by rw [if_neg (show ¬ (false = true) by decide)] at H;exact H);clear H;have H := H1;clear H1
        by_cases c5 : a0 > 127
        · rw [if_pos c5] at H;have c5b0 : decide (127 < a0) = true := decide_eq_true c5;clear c5;obtain rfl := Option.some.inj H
          go_wp2
          go_ret
          exact ⟨by first|rfl|(simp;done)|(simp [*];done), by repeat (first|exact Drawn0.refl _|apply Drawn0.step)⟩
        · rw [if_neg c5] at H;have c5b0 : decide (127 < a0) = false := decide_eq_false c5;clear c5
          by_cases c6 : a0 = 95
          · rw [if_pos c6] at H;have c6b0 : (a0 == 95) = true := beq_iff_eq.mpr c6;have c6b1 : (a0 != 95) = false := bne_eq_false_iff_eq.mpr c6;clear c6;obtain rfl := Option.some.inj H
            go_wp2
            go_ret
            exact ⟨by first|rfl|(simp;done)|(simp [*];done), by repeat (first|exact Drawn0.refl _|apply Drawn0.step)⟩
          · rw [if_neg c6] at H;have c6b0 : (a0 == 95) = false := beq_eq_false_iff_ne.mpr c6;have c6b1 : (a0 != 95) = true := bne_iff_ne.mpr c6
            by_cases c7 : a0 ≥ 48
            · rw [if_pos c7] at H;have c7b0 : decide (48 ≤ a0) = true := decide_eq_true c7;clear c7
              by_cases c8 : a0 ≤ 57
              · rw [if_pos c8] at H;have c8b0 : decide (a0 ≤ 57) = true := decide_eq_true c8;clear c8;obtain rfl := Option.some.inj H
                go_wp2
                go_ret
                exact ⟨by first|rfl|(simp;done)|(simp [*];done), by repeat (first|exact Drawn0.refl _|apply Drawn0.step)⟩
              · rw [if_neg c8] at H;have c8b0 : decide (a0 ≤ 57) = false := decide_eq_false c8;clear c8
                by_cases c9 : a0 ≥ 65
                · rw [if_pos c9] at H;have c9b0 : decide (65 ≤ a0) = true := decide_eq_true c9;clear c9
                  by_cases c10 : a0 ≤ 90
                  · rw [if_pos c10] at H;have c10b0 : decide (a0 ≤ 90) = true := decide_eq_true c10;clear c10;obtain rfl := Option.some.inj H
                    go_wp2
                    go_ret
                    exact ⟨by first|rfl|(simp;done)|(simp [*];done), by repeat (first|exact Drawn0.refl _|apply Drawn0.step)⟩
                  · rw [if_neg c10] at H;have c10b0 : decide (a0 ≤ 90) = false := decide_eq_false c10;clear c10
                    by_cases c11 : a0 ≥ 97
                    · rw [if_pos c11] at H;have c11b0 : decide (97 ≤ a0) = true := decide_eq_true c11;clear c11
                      by_cases c12 : a0 ≤ 122
                      · rw [if_pos c12] at H;have c12b0 : decide (a0 ≤ 122) = true := decide_eq_true c12;clear c12;obtain rfl := Option.some.inj H
                        go_wp2
                        go_ret
                        exact ⟨by first|rfl|(simp;done)|(simp [*];done), by repeat (first|exact Drawn0.refl _|apply Drawn0.step)⟩
                      · rw [if_neg c12] at H;have c12b0 : decide (a0 ≤ 122) = false := decide_eq_false c12;clear c12;obtain rfl := Option.some.inj H
                        go_wp2
                        go_ret
                        exact ⟨by first|rfl|(simp;done)|(simp [*];done), by repeat (first|exact Drawn0.refl _|apply Drawn0.step)⟩
                    · rw [if_neg c11] at H;have c11b0 : decide (97 ≤ a0) = false := decide_eq_false c11;clear c11;obtain rfl := Option.some.inj H
                      go_wp2
                      go_ret
                      exact ⟨by first|rfl|(simp;done)|(simp [*];done), by repeat (first|exact Drawn0.refl _|apply Drawn0.step)⟩
                · rw [if_neg c9] at H;have c9b0 : decide (65 ≤ a0) = false := decide_eq_false c9;clear c9
                  by_cases c13 : a0 ≥ 97
                  · rw [if_pos c13] at H;have c13b0 : decide (97 ≤ a0) = true := decide_eq_true c13;clear c13
                    by_cases c14 : a0 ≤ 122
                    · rw [if_pos c14] at H;have c14b0 : decide (a0 ≤ 122) = true := decide_eq_true c14;clear c14;obtain rfl := Option.some.inj H
                      go_wp2
                      go_ret
                      exact ⟨by first|rfl|(simp;done)|(simp [*];done), by repeat (first|exact Drawn0.refl _|apply Drawn0.step)⟩
                    · rw [if_neg c14] at H;have c14b0 : decide (a0 ≤ 122) = false := decide_eq_false c14;clear c14;obtain rfl := Option.some.inj H
                      go_wp2
                      go_ret
                      exact ⟨by first|rfl|(simp;done)|(simp [*];done), by repeat (first|exact Drawn0.refl _|apply Drawn0.step)⟩
                  · rw [if_neg c13] at H;have c13b0 : decide (97 ≤ a0) = false := decide_eq_false c13;clear c13;obtain rfl := Option.some.inj H
                    go_wp2
                    go_ret
                    exact ⟨by first|rfl|(simp;done)|(simp [*];done), by repeat (first|exact Drawn0.refl _|apply Drawn0.step)⟩
            · rw [if_neg c7] at H;have c7b0 : decide (48 ≤ a0) = false := decide_eq_false c7;clear c7
              by_cases c15 : a0 ≥ 65
              · rw [if_pos c15] at H;have c15b0 : decide (65 ≤ a0) = true := decide_eq_true c15;clear c15
                by_cases c16 : a0 ≤ 90
                · rw [if_pos c16] at H;have c16b0 : decide (a0 ≤ 90) = true := decide_eq_true c16;clear c16;obtain rfl := Option.some.inj H
                  go_wp2
                  go_ret
                  exact ⟨by first|rfl|(simp;done)|(simp [*];done), by repeat (first|exact Drawn0.refl _|apply Drawn0.step)⟩
                · rw [if_neg c16] at H;have c16b0 : decide (a0 ≤ 90) = false := decide_eq_false c16;clear c16
                  by_cases c17 : a0 ≥ 97
                  · rw [if_pos c17] at H;have c17b0 : decide (97 ≤ a0) = true := decide_eq_true c17;clear c17
                    by_cases c18 : a0 ≤ 122
                    · rw [if_pos c18] at H;have c18b0 : decide (a0 ≤ 122) = true := decide_eq_true c18;clear c18;obtain rfl := Option.some.inj H
                      go_wp2
                      go_ret
                      exact ⟨by first|rfl|(simp;done)|(simp [*];done), by repeat (first|exact Drawn0.refl _|apply Drawn0.step)⟩
                    · rw [if_neg c18] at H;have c18b0 : decide (a0 ≤ 122) = false := decide_eq_false c18;clear c18;obtain rfl := Option.some.inj H
                      go_wp2
                      go_ret
                      exact ⟨by first|rfl|(simp;done)|(simp [*];done), by repeat (first|exact Drawn0.refl _|apply Drawn0.step)⟩
                  · rw [if_neg c17] at H;have c17b0 : decide (97 ≤ a0) = false := decide_eq_false c17;clear c17;obtain rfl := Option.some.inj H
                    go_wp2
                    go_ret
                    exact ⟨by first|rfl|(simp;done)|(simp [*];done), by repeat (first|exact Drawn0.refl _|apply Drawn0.step)⟩
              · rw [if_neg c15] at H;have c15b0 : decide (65 ≤ a0) = false := decide_eq_false c15;clear c15
                by_cases c19 : a0 ≥ 97
                · rw [if_pos c19] at H;have c19b0 : decide (97 ≤ a0) = true := decide_eq_true c19;clear c19
                  by_cases c20 : a0 ≤ 122
                  · rw [if_pos c20] at H;have c20b0 : decide (a0 ≤ 122) = true := decide_eq_true c20;clear c20;obtain rfl := Option.some.inj H
                    go_wp2
                    go_ret
                    exact ⟨by first|rfl|(simp;done)|(simp [*];done), by repeat (first|exact Drawn0.refl _|apply Drawn0.step)⟩
                  · rw [if_neg c20] at H;have c20b0 : decide (a0 ≤ 122) = false := decide_eq_false c20;clear c20;obtain rfl := Option.some.inj H
                    go_wp2
                    go_ret
                    exact ⟨by first|rfl|(simp;done)|(simp [*];done), by repeat (first|exact Drawn0.refl _|apply Drawn0.step)⟩
                · rw [if_neg c19] at H;have c19b0 : decide (97 ≤ a0) = false := decide_eq_false c19;clear c19;obtain rfl := Option.some.inj H
                  go_wp2
                  go_ret
                  exact ⟨by first|rfl|(simp;done)|(simp [*];done), by repeat (first|exact Drawn0.refl _|apply Drawn0.step)⟩

/-! ### changeforgeref1_Tokens: function 37 -/
mutual
def changeforgeref1_Tokens.l0 : Nat → ByteArray → List ByteArray → Option (List ByteArray)
  | 0, _, _ => none
  | k + 1, x0, x3 => if (x0.size : Int) > 0 then (changeforgeref1_Tokens.l1 k x0 x3 1) else (some x3)
def changeforgeref1_Tokens.l1 : Nat → ByteArray → List ByteArray → Int → Option (List ByteArray)
  | 0, _, _, _ => none
  | k + 1, x0, x3, x4 => if x4 < (x0.size : Int) then (if 0 < (x0.size : Int) then ((changeforgeref1_kind.f k (bt x0 0)).bind fun t143 => (if t143 < 2 then (if 0 ≤ x4 then ((changeforgeref1_kind.f k (bt x0 x4)).bind fun t144 => ((changeforgeref1_kind.f k (bt x0 0)).bind fun t145 => (if t144 = t145 then (changeforgeref1_Tokens.l1 k x0 x3 (wrap64 (x4 + 1))) else (if x4 ≤ (x0.size : Int) then (if x3.length < 8796093022208 then (changeforgeref1_Tokens.l0 k (x0.extract (x4 : Int).toNat x0.size) (x3 ++ [x0.extract 0 (x4 : Int).toNat])) else (none)) else (none))))) else (none)) else (if 0 ≤ x4 then (if x4 ≤ (x0.size : Int) then (if x3.length < 8796093022208 then (changeforgeref1_Tokens.l0 k (x0.extract (x4 : Int).toNat x0.size) (x3 ++ [x0.extract 0 (x4 : Int).toNat])) else (none)) else (none)) else (none)))) else (none)) else (if 0 ≤ x4 then (if x4 ≤ (x0.size : Int) then (if x3.length < 8796093022208 then (changeforgeref1_Tokens.l0 k (x0.extract (x4 : Int).toNat x0.size) (x3 ++ [x0.extract 0 (x4 : Int).toNat])) else (none)) else (none)) else (none))
end
def changeforgeref1_Tokens.f (k : Nat) (a0 : ByteArray) : Option (List ByteArray) := changeforgeref1_Tokens.l0 k a0 ([] : List ByteArray)
theorem changeforgeref1_Tokens.mono_l : ∀ k, (∀ y0 y1, LeO (changeforgeref1_Tokens.l0 k y0 y1) (changeforgeref1_Tokens.l0 (k + 1) y0 y1)) ∧ (∀ y0 y1 y2, LeO (changeforgeref1_Tokens.l1 k y0 y1 y2) (changeforgeref1_Tokens.l1 (k + 1) y0 y1 y2))
  | 0 => ⟨fun _ _ r h => by simp [changeforgeref1_Tokens.l0] at h, fun _ _ _ r h => by simp [changeforgeref1_Tokens.l1] at h⟩
  | k + 1 => by
    obtain ⟨ih0, ih1⟩ := changeforgeref1_Tokens.mono_l k;refine ⟨?_, ?_⟩
    · intro y0 y1
      unfold changeforgeref1_Tokens.l0
      repeat' first
      | (with_reducible exact ih0 _ _)
      | (with_reducible exact ih1 _ _ _)
      | (with_reducible exact changeforgeref1_kind.mono _ _)
      | (with_reducible exact LeO.refl _)
      | (with_reducible exact LeO.none _)
      | (with_reducible refine LeO.ite ?_ ?_)
      | (with_reducible refine LeO.bind ?_ (fun _ => ?_))
      | exact ih0 _ _
      | exact ih1 _ _ _
      | exact changeforgeref1_kind.mono _ _
      | exact LeO.none _
      | refine LeO.ite ?_ ?_
      | refine LeO.bind ?_ (fun _ => ?_)
    · intro y0 y1 y2
      unfold changeforgeref1_Tokens.l1
      repeat' first
      | (with_reducible exact ih0 _ _)
      | (with_reducible exact ih1 _ _ _)
      | (with_reducible exact changeforgeref1_kind.mono _ _)
      | (with_reducible exact LeO.refl _)
      | (with_reducible exact LeO.none _)
      | (with_reducible refine LeO.ite ?_ ?_)
      | (with_reducible refine LeO.bind ?_ (fun _ => ?_))
      | exact ih0 _ _
      | exact ih1 _ _ _
      | exact changeforgeref1_kind.mono _ _
      | exact LeO.none _
      | refine LeO.ite ?_ ?_
      | refine LeO.bind ?_ (fun _ => ?_)
theorem changeforgeref1_Tokens.mono : ∀ a0 k, LeO (changeforgeref1_Tokens.f k a0) (changeforgeref1_Tokens.f (k + 1) a0) := by
  intro a0 k
  obtain ⟨ih0, ih1⟩ := changeforgeref1_Tokens.mono_l k
  unfold changeforgeref1_Tokens.f
  repeat' first
      | (with_reducible exact ih0 _ _)
      | (with_reducible exact ih1 _ _ _)
      | (with_reducible exact changeforgeref1_kind.mono _ _)
      | (with_reducible exact LeO.refl _)
      | (with_reducible exact LeO.none _)
      | (with_reducible refine LeO.ite ?_ ?_)
      | (with_reducible refine LeO.bind ?_ (fun _ => ?_))
      | exact ih0 _ _
      | exact ih1 _ _ _
      | exact changeforgeref1_kind.mono _ _
      | exact LeO.none _
      | refine LeO.ite ?_ ?_
      | refine LeO.bind ?_ (fun _ => ?_)
set_option maxHeartbeats 8000000 in
set_option maxRecDepth 100000 in
theorem changeforgeref1_Tokens.calls (k : Nat) (a0 : ByteArray) (r : List ByteArray) (w : World) (h : changeforgeref1_Tokens.f k a0 = some r) :
    Calls Try.prog 37 #[.string a0] w fun e w' => ∃ v0_ : Value, e = .returned (v0_) ∧ Kd.R Kd.string 9 w' w.heap.size (fun _ => True) v0_ r ∧ Below w.heap.size w w' := by
  have HB := Aside0.mk (Below.refl w.heap.size w);have H : (changeforgeref1_Tokens.l0 k a0 ([] : List ByteArray)) = some r := h;clear h;have H' := Aside0.mk H;clear H
  go_enter Try.func37, Try.ntmps37
  go_wp2
  repeat (go_quiet (fail);try go_wp2)
  go_loopg [0, 3] k (fun kq v0 v3 w' => ∃ (x0_1 : ByteArray) (x3_1 : List ByteArray), v0 = .string x0_1 ∧ Aside0 (changeforgeref1_Tokens.l0 kq x0_1 x3_1 = some r) ∧ Aside0 (kq ≤ k) ∧ Aside0 (Kd.R Kd.string 9 w' w.heap.size (fun _ => True) v3 x3_1) ∧ Aside0 (Below w.heap.size w w'))
  case atStart => exact ⟨(a0), (([] : List ByteArray)), (by first|rfl|(simp only [i64_w, i32_w];done)|(simp only [i64_w, i32_w];rfl)|(simp;done)|(simp [*];done)), H', ⟨Nat.le_refl _⟩, ⟨by first|exact Kd.R_nil _ _ _ _ _|exact Kd.N_nil _ _ _ _ _|exact Kd.V_nil _ _ _ _ _|exact Kd.Q_nil _ _ _ _ _|exact Kd.S_nil _ _ _ _ _⟩, ⟨eB⟩⟩
  case round =>
    clear H';obtain ⟨x0_1, x3_1, rfl, HA, HK1, HO_3, HB⟩ := hrel
    cases gk with
    | zero => exact absurd HA.out (by simp [changeforgeref1_Tokens.l0])
    | succ k1 =>
      have H := HA.out;clear HA;simp only [changeforgeref1_Tokens.l0] at H
      by_cases c2 : (x0_1.size : Int) > 0
      · rw [if_pos c2] at H;have c2b0 : decide (0 < (x0_1.size : Int)) = true := decide_eq_true c2;have c2b1 : decide (0 < x0_1.size) = true := decide_eq_true (by omega);clear c2;have H' := Aside0.mk H;clear H
        go_wp2
        repeat (go_quiet (fail);try go_wp2)
        go_loopg [4] k1 (fun kq v4 w' => ∃ (x4_2 : Int), v4 = .int .i64 x4_2 ∧ Aside0 (changeforgeref1_Tokens.l1 kq x0_1 x3_1 x4_2 = some r) ∧ Aside0 (kq ≤ k1) ∧ Aside0 (Kd.R Kd.string 9 w' w.heap.size (fun _ => True) u3 x3_1) ∧ Aside0 (Below w.heap.size w w'))
        case atStart => exact ⟨(1), (by first|rfl|(simp only [i64_w, i32_w];done)|(simp only [i64_w, i32_w];rfl)|(simp;done)|(simp [*];done)), H', ⟨Nat.le_refl _⟩, ⟨by (with_reducible repeat first|apply rA|apply rN|apply rD);exact HO_3.out⟩, ⟨eB⟩⟩
        case round =>
          clear H'
          try clear c2
          try clear c2b0
          try clear c2b1
          try clear p2
          obtain ⟨x4_2, rfl, HA, HK2, HO_3, HB⟩ := hrel
          cases gk with
          | zero => exact absurd HA.out (by simp [changeforgeref1_Tokens.l1])
          | succ k2 =>
            have H := HA.out;clear HA;simp only [changeforgeref1_Tokens.l1] at H
            by_cases c3 : x4_2 < (x0_1.size : Int)
            · rw [if_pos c3] at H;have c3b0 : decide (x4_2 < (x0_1.size : Int)) = true := decide_eq_true c3;clear c3
              by_cases c4 : 0 < (x0_1.size : Int)
              · rw [if_pos c4] at H;have c4b0 : decide (0 < (x0_1.size : Int)) = true := decide_eq_true c4;have c4b1 : decide (0 < x0_1.size) = true := decide_eq_true (by omega);clear c4;replace H := Option.bind_eq_some_iff.mp H;obtain ⟨t143, A60, H⟩ := H;replace H : (if t143 < 2 then (if 0 ≤ x4_2 then ((changeforgeref1_kind.f k2 (bt x0_1 x4_2)).bind fun t144 => ((changeforgeref1_kind.f k2 (bt x0_1 0)).bind fun t145 => (if t144 = t145 then (changeforgeref1_Tokens.l1 k2 x0_1 x3_1 (wrap64 (x4_2 + 1))) else (if x4_2 ≤ (x0_1.size : Int) then (if x3_1.length < 8796093022208 then (changeforgeref1_Tokens.l0 k2 (x0_1.extract (x4_2 : Int).toNat x0_1.size) (x3_1 ++ [x0_1.extract 0 (x4_2 : Int).toNat])) else (none)) else (none))))) else (none)) else (if 0 ≤ x4_2 then (if x4_2 ≤ (x0_1.size : Int) then (if x3_1.length < 8796093022208 then (changeforgeref1_Tokens.l0 k2 (x0_1.extract (x4_2 : Int).toNat x0_1.size) (x3_1 ++ [x0_1.extract 0 (x4_2 : Int).toNat])) else (none)) else (none)) else (none))) = some r := H;have A6 := Aside0.mk A60;clear A60
                by_cases c7 : t143 < 2
                · rw [if_pos c7] at H;have c7b0 : decide (t143 < 2) = true := decide_eq_true c7;clear c7
                  by_cases c8 : 0 ≤ x4_2
                  · rw [if_pos c8] at H;have c8b0 : decide (0 ≤ x4_2) = true := decide_eq_true c8;clear c8;replace H := Option.bind_eq_some_iff.mp H;obtain ⟨t144, A100, H⟩ := H;replace H : ((changeforgeref1_kind.f k2 (bt x0_1 0)).bind fun t145 => (if t144 = t145 then (changeforgeref1_Tokens.l1 k2 x0_1 x3_1 (wrap64 (x4_2 + 1))) else (if x4_2 ≤ (x0_1.size : Int) then (if x3_1.length < 8796093022208 then (changeforgeref1_Tokens.l0 k2 (x0_1.extract (x4_2 : Int).toNat x0_1.size) (x3_1 ++ [x0_1.extract 0 (x4_2 : Int).toNat])) else (none)) else (none)))) = some r := H;have A10 := Aside0.mk A100;clear A100;replace H := Option.bind_eq_some_iff.mp H;obtain ⟨t145, A120, H⟩ := H;replace H : (if t144 = t145 then (changeforgeref1_Tokens.l1 k2 x0_1 x3_1 (wrap64 (x4_2 + 1))) else (if x4_2 ≤ (x0_1.size : Int) then (if x3_1.length < 8796093022208 then (changeforgeref1_Tokens.l0 k2 (x0_1.extract (x4_2 : Int).toNat x0_1.size) (x3_1 ++ [x0_1.extract 0 (x4_2 : Int).toNat])) else (none)) else (none))) = some r := H;have A12 := Aside0.mk A120;clear A120
                    by_cases c13 : t144 = t145
                    · rw [if_pos c13] at H;have c13b0 : (t144 == t145) = true := beq_iff_eq.mpr c13;have c13b1 : (t144 != t145) = false := bne_eq_false_iff_eq.mpr c13;have c13e := Option.some.inj (A12.out.symm.trans A6.out);have c13x : (t144 == t143) = true := (by rw [← c13e];exact c13b0);have c13y : (t144 != t143) = false := (by rw [← c13e];exact c13b1);clear c13e;clear c13;have H' := Aside0.mk H;clear H;have p5 : 0 ≤ (0 : Int) := (by omega);have q5 : 0 < x0_1.size := (by have : (0 : Int) < (x0_1.size : Int) := dA;omega);have hx5 : ∀ h : 0 < x0_1.size, ((x0_1[0]'h).toNat : Int) = bt x0_1 0 := bt_at x0_1 0;clear p5;have qi5 : (0 < (x0_1.size : Int)) = True := eq_true (dA);replace q5 := eq_true q5
                      go_wp2_with (first|(go_at_call 67;(with_reducible refine (changeforgeref1_kind.calls k2 (bt x0_1 0) t143 _ A6.out).mono ?_);rintro e w' ⟨rfl, ⟨nd, rfl⟩⟩;(try first|exact ⟨rfl, _, World.drewN_drewN _ _ _⟩|exact ⟨rfl, _, Eq.trans (World.drewN_drewN _ _ _) (congrArg (World.drewN _) (Nat.add_assoc _ _ _))⟩);have p9 : 0 ≤ (x4_2 : Int) := dA;have q9 : x4_2 < (x0_1.size : Int) := dA;have hx9 := bt_at x0_1 x4_2;replace p9 := eq_true p9;replace q9 := eq_true q9)|(go_at_call 67;(with_reducible refine (changeforgeref1_kind.calls k2 (bt x0_1 x4_2) t144 _ A10.out).mono ?_);rintro e w' ⟨rfl, ⟨nd, rfl⟩⟩;(try first|exact ⟨rfl, _, World.drewN_drewN _ _ _⟩|exact ⟨rfl, _, Eq.trans (World.drewN_drewN _ _ _) (congrArg (World.drewN _) (Nat.add_assoc _ _ _))⟩);have p11 : 0 ≤ (0 : Int) := (by omega);have q11 : 0 < x0_1.size := (by have : (0 : Int) < (x0_1.size : Int) := dA;omega);have hx11 : ∀ h : 0 < x0_1.size, ((x0_1[0]'h).toNat : Int) = bt x0_1 0 := bt_at x0_1 0;clear p11;have qi11 : (0 < (x0_1.size : Int)) = True := eq_true (dA);replace q11 := eq_true q11)|(go_at_call 67;(with_reducible refine (changeforgeref1_kind.calls k2 (bt x0_1 0) t145 _ A12.out).mono ?_);rintro e w' ⟨rfl, ⟨nd, rfl⟩⟩;(try first|exact ⟨rfl, _, World.drewN_drewN _ _ _⟩|exact ⟨rfl, _, Eq.trans (World.drewN_drewN _ _ _) (congrArg (World.drewN _) (Nat.add_assoc _ _ _))⟩)))
                      repeat (go_quiet (first|(go_at_call 67;(with_reducible refine (changeforgeref1_kind.calls k2 (bt x0_1 0) t143 _ A6.out).mono ?_);rintro e w' ⟨rfl, ⟨nd, rfl⟩⟩;(try first|exact ⟨rfl, _, World.drewN_drewN _ _ _⟩|exact ⟨rfl, _, Eq.trans (World.drewN_drewN _ _ _) (congrArg (World.drewN _) (Nat.add_assoc _ _ _))⟩);have p9 : 0 ≤ (x4_2 : Int) := dA;have q9 : x4_2 < (x0_1.size : Int) := dA;have hx9 := bt_at x0_1 x4_2;replace p9 := eq_true p9;replace q9 := eq_true q9)|(go_at_call 67;(with_reducible refine (changeforgeref1_kind.calls k2 (bt x0_1 x4_2) t144 _ A10.out).mono ?_);rintro e w' ⟨rfl, ⟨nd, rfl⟩⟩;(try first|exact ⟨rfl, _, World.drewN_drewN _ _ _⟩|exact ⟨rfl, _, Eq.trans (World.drewN_drewN _ _ _) (congrArg (World.drewN _) (Nat.add_assoc _ _ _))⟩);have p11 : 0 ≤ (0 : Int) := (by omega);have q11 : 0 < x0_1.size := (by have : (0 : Int) < (x0_1.size : Int) := dA;omega);have hx11 : ∀ h : 0 < x0_1.size, ((x0_1[0]'h).toNat : Int) = bt x0_1 0 := bt_at x0_1 0;clear p11;have qi11 : (0 < (x0_1.size : Int)) = True := eq_true (dA);replace q11 := eq_true q11)|(go_at_call 67;(with_reducible refine (changeforgeref1_kind.calls k2 (bt x0_1 0) t145 _ A12.out).mono ?_);rintro e w' ⟨rfl, ⟨nd, rfl⟩⟩;(try first|exact ⟨rfl, _, World.drewN_drewN _ _ _⟩|exact ⟨rfl, _, Eq.trans (World.drewN_drewN _ _ _) (congrArg (World.drewN _) (Nat.add_assoc _ _ _))⟩)));try go_wp2_with (first|(go_at_call 67;(with_reducible refine (changeforgeref1_kind.calls k2 (bt x0_1 0) t143 _ A6.out).mono ?_);rintro e w' ⟨rfl, ⟨nd, rfl⟩⟩;(try first|exact ⟨rfl, _, World.drewN_drewN _ _ _⟩|exact ⟨rfl, _, Eq.trans (World.drewN_drewN _ _ _) (congrArg (World.drewN _) (Nat.add_assoc _ _ _))⟩);have p9 : 0 ≤ (x4_2 : Int) := dA;have q9 : x4_2 < (x0_1.size : Int) := dA;have hx9 := bt_at x0_1 x4_2;replace p9 := eq_true p9;replace q9 := eq_true q9)|(go_at_call 67;(with_reducible refine (changeforgeref1_kind.calls k2 (bt x0_1 x4_2) t144 _ A10.out).mono ?_);rintro e w' ⟨rfl, ⟨nd, rfl⟩⟩;(try first|exact ⟨rfl, _, World.drewN_drewN _ _ _⟩|exact ⟨rfl, _, Eq.trans (World.drewN_drewN _ _ _) (congrArg (World.drewN _) (Nat.add_assoc _ _ _))⟩);have p11 : 0 ≤ (0 : Int) := (by omega);have q11 : 0 < x0_1.size := (by have : (0 : Int) < (x0_1.size : Int) := dA;omega);have hx11 : ∀ h : 0 < x0_1.size, ((x0_1[0]'h).toNat : Int) = bt x0_1 0 := bt_at x0_1 0;clear p11;have qi11 : (0 < (x0_1.size : Int)) = True := eq_true (dA);replace q11 := eq_true q11)|(go_at_call 67;(with_reducible refine (changeforgeref1_kind.calls k2 (bt x0_1 0) t145 _ A12.out).mono ?_);rintro e w' ⟨rfl, ⟨nd, rfl⟩⟩;(try first|exact ⟨rfl, _, World.drewN_drewN _ _ _⟩|exact ⟨rfl, _, Eq.trans (World.drewN_drewN _ _ _) (congrArg (World.drewN _) (Nat.add_assoc _ _ _))⟩))))
                      go_roundg k2
                      case measure => have := HK1.out;have := HK2.out;omega
                      case rel => exact ⟨(wrap64 (x4_2 + 1)), (by first|rfl|(simp only [i64_w, i32_w];done)|(simp only [i64_w, i32_w];rfl)|(simp;done)|(simp [*];done)), H', ⟨by have := HK1.out;have := HK2.out;omega⟩, ⟨by (with_reducible repeat first|apply rA|apply rN|apply rD);exact HO_3.out⟩, ⟨eB⟩⟩
                    · rw [if_neg c13] at H;have c13b0 : (t144 == t145) = false := beq_eq_false_iff_ne.mpr c13;have c13b1 : (t144 != t145) = true := bne_iff_ne.mpr c13;have c13e := Option.some.inj (A12.out.symm.trans A6.out);have c13x : (t144 == t143) = false := (by rw [← c13e];exact c13b0);have c13y : (t144 != t143) = true := (by rw [← c13e];exact c13b1);clear c13e;have c14b0 := eq_true (dA : 0 ≤ x4_2)
                      by_cases c15 : x4_2 ≤ (x0_1.size : Int)
                      · rw [if_pos c15] at H;have c15b0 := eq_true c15;have c15b1 : decide (x4_2 ≤ (x0_1.size : Int)) = true := decide_eq_true c15;clear c15
                        by_cases c16 : x3_1.length < 8796093022208
                        · rw [if_pos c16] at H;have LMc16 := Aside0.mk c16;clear c16;obtain ⟨y146, hy146⟩ : ∃ y_ : List ByteArray, y_ = (x3_1 ++ [x0_1.extract 0 (x4_2 : Int).toNat]) := ⟨_, rfl⟩;replace H : (changeforgeref1_Tokens.l0 k2 (x0_1.extract (x4_2 : Int).toNat x0_1.size) y146) = some r := (by first|(rw [hy146];with_reducible exact H)|(have H2_ := (Option.bind_some _ _).symm.trans H;rw [hy146];with_reducible exact H2_)|(have H2_ := (Option.bind_some _ _).symm.trans H;with_reducible exact H2_)|with_reducible exact H|(rw [hy146];exact H)|exact H);have Ny146 := Aside0.mk hy146;clear hy146;have c17b0 := eq_true (dA : 0 ≤ x4_2);have c18b0 := eq_true (dA : x4_2 ≤ (x0_1.size : Int));have H' := Aside0.mk H;clear H;have p5 : 0 ≤ (0 : Int) := (by omega);have q5 : 0 < x0_1.size := (by have : (0 : Int) < (x0_1.size : Int) := dA;omega);have hx5 : ∀ h : 0 < x0_1.size, ((x0_1[0]'h).toNat : Int) = bt x0_1 0 := bt_at x0_1 0;clear p5;have qi5 : (0 < (x0_1.size : Int)) = True := eq_true (dA);replace q5 := eq_true q5
                          go_wp2_with (first|(go_at_call 67;(with_reducible refine (changeforgeref1_kind.calls k2 (bt x0_1 0) t143 _ A6.out).mono ?_);rintro e w' ⟨rfl, ⟨nd, rfl⟩⟩;(try first|exact ⟨rfl, _, World.drewN_drewN _ _ _⟩|exact ⟨rfl, _, Eq.trans (World.drewN_drewN _ _ _) (congrArg (World.drewN _) (Nat.add_assoc _ _ _))⟩);have p9 : 0 ≤ (x4_2 : Int) := dA;have q9 : x4_2 < (x0_1.size : Int) := dA;have hx9 := bt_at x0_1 x4_2;replace p9 := eq_true p9;replace q9 := eq_true q9)|(go_at_call 67;(with_reducible refine (changeforgeref1_kind.calls k2 (bt x0_1 x4_2) t144 _ A10.out).mono ?_);rintro e w' ⟨rfl, ⟨nd, rfl⟩⟩;(try first|exact ⟨rfl, _, World.drewN_drewN _ _ _⟩|exact ⟨rfl, _, Eq.trans (World.drewN_drewN _ _ _) (congrArg (World.drewN _) (Nat.add_assoc _ _ _))⟩);have p11 : 0 ≤ (0 : Int) := (by omega);have q11 : 0 < x0_1.size := (by have : (0 : Int) < (x0_1.size : Int) := dA;omega);have hx11 : ∀ h : 0 < x0_1.size, ((x0_1[0]'h).toNat : Int) = bt x0_1 0 := bt_at x0_1 0;clear p11;have qi11 : (0 < (x0_1.size : Int)) = True := eq_true (dA);replace q11 := eq_true q11)|(go_at_call 67;(with_reducible refine (changeforgeref1_kind.calls k2 (bt x0_1 0) t145 _ A12.out).mono ?_);rintro e w' ⟨rfl, ⟨nd, rfl⟩⟩;(try first|exact ⟨rfl, _, World.drewN_drewN _ _ _⟩|exact ⟨rfl, _, Eq.trans (World.drewN_drewN _ _ _) (congrArg (World.drewN _) (Nat.add_assoc _ _ _))⟩))|((with_reducible refine gate_builtin (b := .append) (xs := #[.tmp 30, .tmp 34]) rfl ?_);at_builtin;refine Kd.R_append Kd.string (w0 := w) w.heap.size rfl (.tmp 30) (.tmp 34) 22 9 (.string ⟨#[]⟩) 16 rfl Try.underlying22 info9 rfl (by decide) (by omega) u3 x3_1 (x0_1.extract 0 (x4_2 : Int).toNat) [.string (x0_1.extract 0 (x4_2 : Int).toNat)] (fun _ => True) (fun _ => False) rfl rfl ?aP (fun _ hk => hk.elim) ?aF ?aO ?aB ?aS ?aL ?_;(case aP => exact rfl);(case aB => exact eB);(case aF => exact (fun _ _ => trivial));(case aO => exact (rK HO_3));(case aS => exact (below_size eB));(case aL => have := LMc16.out;omega);intro v147 w19 ho hb hg hat;rw [← Ny146.out] at ho;have n0_ := Aside0.mk (hb);have n1_ := Aside0.mk (ho);clear HB;clear HO_3;have HB := n0_;have HO148 := n1_;clear n0_ n1_;clear ho hb hg hat))
                          repeat (go_quiet (first|(go_at_call 67;(with_reducible refine (changeforgeref1_kind.calls k2 (bt x0_1 0) t143 _ A6.out).mono ?_);rintro e w' ⟨rfl, ⟨nd, rfl⟩⟩;(try first|exact ⟨rfl, _, World.drewN_drewN _ _ _⟩|exact ⟨rfl, _, Eq.trans (World.drewN_drewN _ _ _) (congrArg (World.drewN _) (Nat.add_assoc _ _ _))⟩);have p9 : 0 ≤ (x4_2 : Int) := dA;have q9 : x4_2 < (x0_1.size : Int) := dA;have hx9 := bt_at x0_1 x4_2;replace p9 := eq_true p9;replace q9 := eq_true q9)|(go_at_call 67;(with_reducible refine (changeforgeref1_kind.calls k2 (bt x0_1 x4_2) t144 _ A10.out).mono ?_);rintro e w' ⟨rfl, ⟨nd, rfl⟩⟩;(try first|exact ⟨rfl, _, World.drewN_drewN _ _ _⟩|exact ⟨rfl, _, Eq.trans (World.drewN_drewN _ _ _) (congrArg (World.drewN _) (Nat.add_assoc _ _ _))⟩);have p11 : 0 ≤ (0 : Int) := (by omega);have q11 : 0 < x0_1.size := (by have : (0 : Int) < (x0_1.size : Int) := dA;omega);have hx11 : ∀ h : 0 < x0_1.size, ((x0_1[0]'h).toNat : Int) = bt x0_1 0 := bt_at x0_1 0;clear p11;have qi11 : (0 < (x0_1.size : Int)) = True := eq_true (dA);replace q11 := eq_true q11)|(go_at_call 67;(with_reducible refine (changeforgeref1_kind.calls k2 (bt x0_1 0) t145 _ A12.out).mono ?_);rintro e w' ⟨rfl, ⟨nd, rfl⟩⟩;(try first|exact ⟨rfl, _, World.drewN_drewN _ _ _⟩|exact ⟨rfl, _, Eq.trans (World.drewN_drewN _ _ _) (congrArg (World.drewN _) (Nat.add_assoc _ _ _))⟩))|((with_reducible refine gate_builtin (b := .append) (xs := #[.tmp 30, .tmp 34]) rfl ?_);at_builtin;refine Kd.R_append Kd.string (w0 := w) w.heap.size rfl (.tmp 30) (.tmp 34) 22 9 (.string ⟨#[]⟩) 16 rfl Try.underlying22 info9 rfl (by decide) (by omega) u3 x3_1 (x0_1.extract 0 (x4_2 : Int).toNat) [.string (x0_1.extract 0 (x4_2 : Int).toNat)] (fun _ => True) (fun _ => False) rfl rfl ?aP (fun _ hk => hk.elim) ?aF ?aO ?aB ?aS ?aL ?_;(case aP => exact rfl);(case aB => exact eB);(case aF => exact (fun _ _ => trivial));(case aO => exact (rK HO_3));(case aS => exact (below_size eB));(case aL => have := LMc16.out;omega);intro v147 w19 ho hb hg hat;rw [← Ny146.out] at ho;have n0_ := Aside0.mk (hb);have n1_ := Aside0.mk (ho);clear HB;clear HO_3;have HB := n0_;have HO148 := n1_;clear n0_ n1_;clear ho hb hg hat));try go_wp2_with (first|(go_at_call 67;(with_reducible refine (changeforgeref1_kind.calls k2 (bt x0_1 0) t143 _ A6.out).mono ?_);rintro e w' ⟨rfl, ⟨nd, rfl⟩⟩;(try first|exact ⟨rfl, _, World.drewN_drewN _ _ _⟩|exact ⟨rfl, _, Eq.trans (World.drewN_drewN _ _ _) (congrArg (World.drewN _) (Nat.add_assoc _ _ _))⟩);have p9 : 0 ≤ (x4_2 : Int) := dA;have q9 : x4_2 < (x0_1.size : Int) := dA;have hx9 := bt_at x0_1 x4_2;replace p9 := eq_true p9;replace q9 := eq_true q9)|(go_at_call 67;(with_reducible refine (changeforgeref1_kind.calls k2 (bt x0_1 x4_2) t144 _ A10.out).mono ?_);rintro e w' ⟨rfl, ⟨nd, rfl⟩⟩;(try first|exact ⟨rfl, _, World.drewN_drewN _ _ _⟩|exact ⟨rfl, _, Eq.trans (World.drewN_drewN _ _ _) (congrArg (World.drewN _) (Nat.add_assoc _ _ _))⟩);have p11 : 0 ≤ (0 : Int) := (by omega);have q11 : 0 < x0_1.size := (by have : (0 : Int) < (x0_1.size : Int) := dA;omega);have hx11 : ∀ h : 0 < x0_1.size, ((x0_1[0]'h).toNat : Int) = bt x0_1 0 := bt_at x0_1 0;clear p11;have qi11 : (0 < (x0_1.size : Int)) = True := eq_true (dA);replace q11 := eq_true q11)|(go_at_call 67;(with_reducible refine (changeforgeref1_kind.calls k2 (bt x0_1 0) t145 _ A12.out).mono ?_);rintro e w' ⟨rfl, ⟨nd, rfl⟩⟩;(try first|exact ⟨rfl, _, World.drewN_drewN _ _ _⟩|exact ⟨rfl, _, Eq.trans (World.drewN_drewN _ _ _) (congrArg (World.drewN _) (Nat.add_assoc _ _ _))⟩))|((with_reducible refine gate_builtin (b := .append) (xs := #[.tmp 30, .tmp 34]) rfl ?_);at_builtin;refine Kd.R_append Kd.string (w0 := w) w.heap.size rfl (.tmp 30) (.tmp 34) 22 9 (.string ⟨#[]⟩) 16 rfl Try.underlying22 info9 rfl (by decide) (by omega) u3 x3_1 (x0_1.extract 0 (x4_2 : Int).toNat) [.string (x0_1.extract 0 (x4_2 : Int).toNat)] (fun _ => True) (fun _ => False) rfl rfl ?aP (fun _ hk => hk.elim) ?aF ?aO ?aB ?aS ?aL ?_;(case aP => exact rfl);(case aB => exact eB);(case aF => exact (fun _ _ => trivial));(case aO => exact (rK HO_3));(case aS => exact (below_size eB));(case aL => have := LMc16.out;omega);intro v147 w19 ho hb hg hat;rw [← Ny146.out] at ho;have n0_ := Aside0.mk (hb);have n1_ := Aside0.mk (ho);clear HB;clear HO_3;have HB := n0_;have HO148 := n1_;clear n0_ n1_;clear ho hb hg hat)))
                          go_roundg k2
                          case measure => have := HK1.out;have := HK2.out;omega
                          case rel => exact ⟨(x0_1.extract (x4_2 : Int).toNat x0_1.size), (y146), (by first|rfl|(simp only [i64_w, i32_w];done)|(simp only [i64_w, i32_w];rfl)|(simp;done)|(simp [*];done)), H', ⟨by have := HK1.out;have := HK2.out;omega⟩, ⟨by (with_reducible repeat first|apply rA|apply rN|apply rD);exact HO148.out⟩, ⟨eB⟩⟩
                        · rw [if_neg c16] at H;exact absurd H (by simp)
                      · rw [if_neg c15] at H;exact absurd H (by simp)
                  · rw [if_neg c8] at H;exact absurd H (by simp)
                · rw [if_neg c7] at H;have c7b0 : decide (t143 < 2) = false := decide_eq_false c7;clear c7
                  by_cases c20 : 0 ≤ x4_2
                  · rw [if_pos c20] at H;have c20b0 := eq_true c20;have c20b1 : decide (0 ≤ x4_2) = true := decide_eq_true c20;clear c20
                    by_cases c21 : x4_2 ≤ (x0_1.size : Int)
                    · rw [if_pos c21] at H;have c21b0 := eq_true c21;have c21b1 : decide (x4_2 ≤ (x0_1.size : Int)) = true := decide_eq_true c21;clear c21
                      by_cases c22 : x3_1.length < 8796093022208
                      · rw [if_pos c22] at H;have LMc22 := Aside0.mk c22;clear c22;obtain ⟨y149, hy149⟩ : ∃ y_ : List ByteArray, y_ = (x3_1 ++ [x0_1.extract 0 (x4_2 : Int).toNat]) := ⟨_, rfl⟩;replace H : (changeforgeref1_Tokens.l0 k2 (x0_1.extract (x4_2 : Int).toNat x0_1.size) y149) = some r := (by first|(rw [hy149];with_reducible exact H)|(have H2_ := (Option.bind_some _ _).symm.trans H;rw [hy149];with_reducible exact H2_)|(have H2_ := (Option.bind_some _ _).symm.trans H;with_reducible exact H2_)|with_reducible exact H|(rw [hy149];exact H)|exact H);have Ny149 := Aside0.mk hy149;clear hy149;have c23b0 := eq_true (dA : 0 ≤ x4_2);have c24b0 := eq_true (dA : x4_2 ≤ (x0_1.size : Int));have H' := Aside0.mk H;clear H;have p5 : 0 ≤ (0 : Int) := (by omega);have q5 : 0 < x0_1.size := (by have : (0 : Int) < (x0_1.size : Int) := dA;omega);have hx5 : ∀ h : 0 < x0_1.size, ((x0_1[0]'h).toNat : Int) = bt x0_1 0 := bt_at x0_1 0;clear p5;have qi5 : (0 < (x0_1.size : Int)) = True := eq_true (dA);replace q5 := eq_true q5
                        go_wp2_with (first|(go_at_call 67;(with_reducible refine (changeforgeref1_kind.calls k2 (bt x0_1 0) t143 _ A6.out).mono ?_);rintro e w' ⟨rfl, ⟨nd, rfl⟩⟩;(try first|exact ⟨rfl, _, World.drewN_drewN _ _ _⟩|exact ⟨rfl, _, Eq.trans (World.drewN_drewN _ _ _) (congrArg (World.drewN _) (Nat.add_assoc _ _ _))⟩))|((with_reducible refine gate_builtin (b := .append) (xs := #[.tmp 30, .tmp 34]) rfl ?_);at_builtin;refine Kd.R_append Kd.string (w0 := w) w.heap.size rfl (.tmp 30) (.tmp 34) 22 9 (.string ⟨#[]⟩) 16 rfl Try.underlying22 info9 rfl (by decide) (by omega) u3 x3_1 (x0_1.extract 0 (x4_2 : Int).toNat) [.string (x0_1.extract 0 (x4_2 : Int).toNat)] (fun _ => True) (fun _ => False) rfl rfl ?aP (fun _ hk => hk.elim) ?aF ?aO ?aB ?aS ?aL ?_;(case aP => exact rfl);(case aB => exact eB);(case aF => exact (fun _ _ => trivial));(case aO => exact (rK HO_3));(case aS => exact (below_size eB));(case aL => have := LMc22.out;omega);intro v150 w25 ho hb hg hat;rw [← Ny149.out] at ho;have n0_ := Aside0.mk (hb);have n1_ := Aside0.mk (ho);clear HB;clear HO_3;have HB := n0_;have HO151 := n1_;clear n0_ n1_;clear ho hb hg hat))
                        repeat (go_quiet (first|(go_at_call 67;(with_reducible refine (changeforgeref1_kind.calls k2 (bt x0_1 0) t143 _ A6.out).mono ?_);rintro e w' ⟨rfl, ⟨nd, rfl⟩⟩;(try first|exact ⟨rfl, _, World.drewN_drewN _ _ _⟩|exact ⟨rfl, _, Eq.trans (World.drewN_drewN _ _ _) (congrArg (World.drewN _) (Nat.add_assoc _ _ _))⟩))|((with_reducible refine gate_builtin (b := .append) (xs := #[.tmp 30, .tmp 34]) rfl ?_);at_builtin;refine Kd.R_append Kd.string (w0 := w) w.heap.size rfl (.tmp 30) (.tmp 34) 22 9 (.string ⟨#[]⟩) 16 rfl Try.underlying22 info9 rfl (by decide) (by omega) u3 x3_1 (x0_1.extract 0 (x4_2 : Int).toNat) [.string (x0_1.extract 0 (x4_2 : Int).toNat)] (fun _ => True) (fun _ => False) rfl rfl ?aP (fun _ hk => hk.elim) ?aF ?aO ?aB ?aS ?aL ?_;(case aP => exact rfl);(case aB => exact eB);(case aF => exact (fun _ _ => trivial));(case aO => exact (rK HO_3));(case aS => exact (below_size eB));(case aL => have := LMc22.out;omega);intro v150 w25 ho hb hg hat;rw [← Ny149.out] at ho;have n0_ := Aside0.mk (hb);have n1_ := Aside0.mk (ho);clear HB;clear HO_3;have HB := n0_;have HO151 := n1_;clear n0_ n1_;clear ho hb hg hat));try go_wp2_with (first|(go_at_call 67;(with_reducible refine (changeforgeref1_kind.calls k2 (bt x0_1 0) t143 _ A6.out).mono ?_);rintro e w' ⟨rfl, ⟨nd, rfl⟩⟩;(try first|exact ⟨rfl, _, World.drewN_drewN _ _ _⟩|exact ⟨rfl, _, Eq.trans (World.drewN_drewN _ _ _) (congrArg (World.drewN _) (Nat.add_assoc _ _ _))⟩))|((with_reducible refine gate_builtin (b := .append) (xs := #[.tmp 30, .tmp 34]) rfl ?_);at_builtin;refine Kd.R_append Kd.string (w0 := w) w.heap.size rfl (.tmp 30) (.tmp 34) 22 9 (.string ⟨#[]⟩) 16 rfl Try.underlying22 info9 rfl (by decide) (by omega) u3 x3_1 (x0_1.extract 0 (x4_2 : Int).toNat) [.string (x0_1.extract 0 (x4_2 : Int).toNat)] (fun _ => True) (fun _ => False) rfl rfl ?aP (fun _ hk => hk.elim) ?aF ?aO ?aB ?aS ?aL ?_;(case aP => exact rfl);(case aB => exact eB);(case aF => exact (fun _ _ => trivial));(case aO => exact (rK HO_3));(case aS => exact (below_size eB));(case aL => have := LMc22.out;omega);intro v150 w25 ho hb hg hat;rw [← Ny149.out] at ho;have n0_ := Aside0.mk (hb);have n1_ := Aside0.mk (ho);clear HB;clear HO_3;have HB := n0_;have HO151 := n1_;clear n0_ n1_;clear ho hb hg hat)))
                        go_roundg k2
                        case measure => have := HK1.out;have := HK2.out;omega
                        case rel => exact ⟨(x0_1.extract (x4_2 : Int).toNat x0_1.size), (y149), (by first|rfl|(simp only [i64_w, i32_w];done)|(simp only [i64_w, i32_w];rfl)|(simp;done)|(simp [*];done)), H', ⟨by have := HK1.out;have := HK2.out;omega⟩, ⟨by (with_reducible repeat first|apply rA|apply rN|apply rD);exact HO151.out⟩, ⟨eB⟩⟩
                      · rw [if_neg c22] at H;exact absurd H (by simp)
                    · rw [if_neg c21] at H;exact absurd H (by simp)
                  · rw [if_neg c20] at H;exact absurd H (by simp)
              · rw [if_neg c4] at H;exact absurd H (by simp)
            · rw [if_neg c3] at H;have c3b0 : decide (x4_2 < (x0_1.size : Int)) = false := decide_eq_false c3;clear c3
              by_cases c26 : 0 ≤ x4_2
              · rw [if_pos c26] at H;have c26b0 := eq_true c26;have c26b1 : decide (0 ≤ x4_2) = true := decide_eq_true c26;clear c26
                by_cases c27 : x4_2 ≤ (x0_1.size : Int)
                · rw [if_pos c27] at H;have c27b0 := eq_true c27;have c27b1 : decide (x4_2 ≤ (x0_1.size : Int)) = true := decide_eq_true c27;clear c27
                  by_cases c28 : x3_1.length < 8796093022208
                  · rw [if_pos c28] at H;have LMc28 := Aside0.mk c28;clear c28;obtain ⟨y152, hy152⟩ : ∃ y_ : List ByteArray, y_ = (x3_1 ++ [x0_1.extract 0 (x4_2 : Int).toNat]) := ⟨_, rfl⟩;replace H : (changeforgeref1_Tokens.l0 k2 (x0_1.extract (x4_2 : Int).toNat x0_1.size) y152) = some r := (by first|(rw [hy152];with_reducible exact H)|(have H2_ := (Option.bind_some _ _).symm.trans H;rw [hy152];with_reducible exact H2_)|(have H2_ := (Option.bind_some _ _).symm.trans H;with_reducible exact H2_)|with_reducible exact H|(rw [hy152];exact H)|exact H);have Ny152 := Aside0.mk hy152;clear hy152;have c29b0 := eq_true (dA : 0 ≤ x4_2);have c30b0 := eq_true (dA : x4_2 ≤ (x0_1.size : Int));have H' := Aside0.mk H;clear H
                    go_wp2_with (first|((with_reducible refine gate_builtin (b := .append) (xs := #[.tmp 30, .tmp 34]) rfl ?_);at_builtin;refine Kd.R_append Kd.string (w0 := w) w.heap.size rfl (.tmp 30) (.tmp 34) 22 9 (.string ⟨#[]⟩) 16 rfl Try.underlying22 info9 rfl (by decide) (by omega) u3 x3_1 (x0_1.extract 0 (x4_2 : Int).toNat) [.string (x0_1.extract 0 (x4_2 : Int).toNat)] (fun _ => True) (fun _ => False) rfl rfl ?aP (fun _ hk => hk.elim) ?aF ?aO ?aB ?aS ?aL ?_;(case aP => exact rfl);(case aB => exact eB);(case aF => exact (fun _ _ => trivial));(case aO => exact (rK HO_3));(case aS => exact (below_size eB));(case aL => have := LMc28.out;omega);intro v153 w31 ho hb hg hat;rw [← Ny152.out] at ho;have n0_ := Aside0.mk (hb);have n1_ := Aside0.mk (ho);clear HB;clear HO_3;have HB := n0_;have HO154 := n1_;clear n0_ n1_;clear ho hb hg hat))
                    repeat (go_quiet (first|((with_reducible refine gate_builtin (b := .append) (xs := #[.tmp 30, .tmp 34]) rfl ?_);at_builtin;refine Kd.R_append Kd.string (w0 := w) w.heap.size rfl (.tmp 30) (.tmp 34) 22 9 (.string ⟨#[]⟩) 16 rfl Try.underlying22 info9 rfl (by decide) (by omega) u3 x3_1 (x0_1.extract 0 (x4_2 : Int).toNat) [.string (x0_1.extract 0 (x4_2 : Int).toNat)] (fun _ => True) (fun _ => False) rfl rfl ?aP (fun _ hk => hk.elim) ?aF ?aO ?aB ?aS ?aL ?_;(case aP => exact rfl);(case aB => exact eB);(case aF => exact (fun _ _ => trivial));(case aO => exact (rK HO_3));(case aS => exact (below_size eB));(case aL => have := LMc28.out;omega);intro v153 w31 ho hb hg hat;rw [← Ny152.out] at ho;have n0_ := Aside0.mk (hb);have n1_ := Aside0.mk (ho);clear HB;clear HO_3;have HB := n0_;have HO154 := n1_;clear n0_ n1_;clear ho hb hg hat));try go_wp2_with (first|((with_reducible refine gate_builtin (b := .append) (xs := #[.tmp 30, .tmp 34]) rfl ?_);at_builtin;refine Kd.R_append Kd.string (w0 := w) w.heap.size rfl (.tmp 30) (.tmp 34) 22 9 (.string ⟨#[]⟩) 16 rfl Try.underlying22 info9 rfl (by decide) (by omega) u3 x3_1 (x0_1.extract 0 (x4_2 : Int).toNat) [.string (x0_1.extract 0 (x4_2 : Int).toNat)] (fun _ => True) (fun _ => False) rfl rfl ?aP (fun _ hk => hk.elim) ?aF ?aO ?aB ?aS ?aL ?_;(case aP => exact rfl);(case aB => exact eB);(case aF => exact (fun _ _ => trivial));(case aO => exact (rK HO_3));(case aS => exact (below_size eB));(case aL => have := LMc28.out;omega);intro v153 w31 ho hb hg hat;rw [← Ny152.out] at ho;have n0_ := Aside0.mk (hb);have n1_ := Aside0.mk (ho);clear HB;clear HO_3;have HB := n0_;have HO154 := n1_;clear n0_ n1_;clear ho hb hg hat)))
                    go_roundg k2
                    case measure => have := HK1.out;have := HK2.out;omega
                    case rel => exact ⟨(x0_1.extract (x4_2 : Int).toNat x0_1.size), (y152), (by first|rfl|(simp only [i64_w, i32_w];done)|(simp only [i64_w, i32_w];rfl)|(simp;done)|(simp [*];done)), H', ⟨by have := HK1.out;have := HK2.out;omega⟩, ⟨by (with_reducible repeat first|apply rA|apply rN|apply rD);exact HO154.out⟩, ⟨eB⟩⟩
                  · rw [if_neg c28] at H;exact absurd H (by simp)
                · rw [if_neg c27] at H;exact absurd H (by simp)
              · rw [if_neg c26] at H;exact absurd H (by simp)
      · rw [if_neg c2] at H;have c2b0 : decide (0 < (x0_1.size : Int)) = false := decide_eq_false c2;have c2b1 : decide (0 < x0_1.size) = false := decide_eq_false (by omega);clear c2;obtain rfl := Option.some.inj H
        go_wp2
        repeat (go_quiet (fail);try go_wp2)
        go_ret
        exact ⟨_, rW, by (with_reducible repeat first|apply rA|apply rN|apply rD);exact HO_3.out, eB⟩

/-! ### changeforgeref1_suffixes: function 50 -/
def changeforgeref1_suffixes.f (l0 : List ByteArray) (l1 : List ByteArray) : Option ((List (List Int))) :=  if l0.length ≤ 1000 ∧ l1.length ≤ 1000 then some (lcsTab l1 l0) else none
theorem changeforgeref1_suffixes_info2 : (Try.prog.info? 3).map (fun i => (i.zero, i.size, i.bytes)) = some (some (.int .i64 0), 1, 8) := by kernel_rfl
theorem changeforgeref1_suffixes_info : (Try.prog.info? 63).map (fun i => (i.zero, i.size, i.bytes)) = some (some (.slice none 0 0), 1, 24) := by kernel_rfl
section
attribute [local irreducible] wpStill
set_option maxHeartbeats 40000000 in
set_option maxRecDepth 100000 in
theorem changeforgeref1_suffixes.calls (A0 : Option Addr) (c0 : Nat) (l0 : List ByteArray) (A1 : Option Addr) (c1 : Nat) (l1 : List ByteArray) (r : List (List Int)) (w : World) (hr0 : Kd.C Kd.string w A0 l0.length l0) (hc0 : l0.length ≤ c0) (hr1 : Kd.C Kd.string w A1 l1.length l1) (hc1 : l1.length ≤ c1) (h : changeforgeref1_suffixes.f l0 l1 = some r) :
    Calls Try.prog 50 #[.slice A0 l0.length c0, .slice A1 l1.length c1] w fun e w' => ∃ v0_ : Value, e = .returned (v0_) ∧ Kd.S (Kd.slice 3 (Kd.int .i64)) 63 w' w.heap.size (fun _ => True) v0_ r ∧ Below w.heap.size w w' := by
  replace h : (if l0.length ≤ 1000 ∧ l1.length ≤ 1000 then some (lcsTab l1 l0) else none) = some r := h
  obtain ⟨⟨hm, hn⟩, hr⟩ : (l0.length ≤ 1000 ∧ l1.length ≤ 1000) ∧ lcsTab l1 l0 = r := by
    split at h
    · rename_i hs; exact ⟨hs, Option.some.inj h⟩
    · cases h
  clear h
  have HR0 := Aside0.mk hr0
  have HR1 := Aside0.mk hr1
  have HR := Aside0.mk hr
  clear hr0 hr1 hr
  go_enter Try.func50, Try.ntmps50
  go_wp2_with ((with_reducible refine gate_dst (N := 12) rfl ?_); refine Kd.S_make (Kd.slice 3 (Kd.int .i64)) _ 63 rfl (N := 12) rfl 64 _ _ rfl ((l1.length : Int) + 1) rfl rfl Try.underlying64 (.slice none 0 0) 24 changeforgeref1_suffixes_info rfl (by decide) (by omega) [] (ok := fun _ => True) (okp := fun _ => True) ⟨_, rfl, Kd.R_nil _ _ _ _ _⟩ (fun _ hk => hk) trivial (by omega) (by omega) (Below.refl _ _) (Nat.le_refl _) ?_; intro v w1 ho hb hg_ hnew_; clear hg_ hnew_; obtain ⟨g, cap, rfl, hgb, hS⟩ := tab_made l1.length l0.length ho; rw [← tabI_start l1.length l0.length (lcsFrom l1 l0 (l1.length + 1) 0)] at hS; have HS := Aside0.mk hS; have HB := Aside0.mk hb; clear ho hb hS)
  go_loopw [6] (fun v6 wr => ∃ (iN : Nat) (x6 : Int), v6 = .int .i64 x6 ∧ Aside0 (x6 = (iN : Int) - 1 ∧ iN ≤ l1.length + 1) ∧ Aside0 (Kd.S (Kd.slice 3 (Kd.int .i64)) 63 wr w.heap.size (fun _ => True) (.slice (some ⟨g, 0, none⟩) (l1.length + 1) cap) (tabI l1.length l0.length iN (lcsFrom l1 l0 iN 0))) ∧ Aside0 (Below w.heap.size w wr)) (fun v6 wr => (intOf v6 + 1).toNat)
  case atStart => exact ⟨l1.length + 1, _, rfl, ⟨by omega, Nat.le_refl _⟩, HS, HB⟩
  case round =>
    clear HS HB
    obtain ⟨iN, x6, rfl, HI, HS, HB⟩ := hrel
    obtain ⟨hi1, hi2⟩ := HI.out
    cases iN with
    | zero =>
      have hneg : x6 < 0 := by omega
      clear hi1 HI
      rw [lcsFrom_fullI, HR.out] at HS
      go_wp2
      refine bodyPost_ret (results_tmp rfl _ _ _) rfl ?_
      exact ⟨_, rfl, HS.out, HB.out⟩
    | succ j =>
      obtain rfl : x6 = (j : Int) := by omega
      clear hi1 HI
      by_cases hjl : j < l1.length
      · have hjne : ((j : Int) == (l1.length : Int)) = false := by simp; omega
        go_wp2_with ((with_reducible refine gate_dst (N := 24) rfl ?_); refine Kd.R_make (Kd.int .i64) _ 3 rfl (N := 24) rfl 63 _ _ rfl ((l0.length : Int) + 1) rfl rfl Try.underlying63 (.int .i64 0) 8 changeforgeref1_suffixes_info2 rfl (by decide) (by omega) 0 (ok := fun _ => True) (okp := fun _ => True) rfl (fun _ hk => hk) trivial (by omega) (by omega) (Below.refl _ _) (Nat.le_refl _) ?_; intro v w2 ho hb hg_ hnew_; clear hg_ hnew_; obtain ⟨g2, cap2, A, c, rfl, hcell, hfr, hs2, hb2⟩ := tab_newrow HS.out HB.out hgb hb ho j (by omega); have HS2 := Aside0.mk hs2; have HB2 := Aside0.mk hb2; clear hs2 hb2 hb ho)
        rw [lcsFrom_new] at HS2
        clear HS HB
        go_loopw [7] (fun v7 wr => ∃ (jN : Nat) (x7 : Int), v7 = .int .i64 x7 ∧ Aside0 (x7 = (jN : Int) - 1 ∧ jN ≤ l0.length) ∧ Aside0 (Kd.S (Kd.slice 3 (Kd.int .i64)) 63 wr w.heap.size (fun _ => True) (.slice (some ⟨g, 0, none⟩) (l1.length + 1) cap) (tabI l1.length l0.length j (lcsFrom l1 l0 j jN))) ∧ Aside0 (Below w.heap.size w wr)) (fun v7 wr => (intOf v7 + 1).toNat)
        case atStart => exact ⟨l0.length, _, rfl, ⟨rfl, Nat.le_refl _⟩, HS2, HB2⟩
        case round =>
          clear HS2 HB2
          obtain ⟨jN, x7, rfl, HJ, HS, HB⟩ := hrel
          obtain ⟨hj1, hj2⟩ := HJ.out
          cases jN with
          | zero =>
            have hneg : x7 < 0 := by omega
            clear hj1 HJ
            go_wp2
            go_roundw
            case rel => exact ⟨j, _, rfl, ⟨by first | rfl | omega, by omega⟩, HS, HB⟩
            case measure => simp [intOf]
          | succ i =>
              obtain rfl : x7 = (i : Int) := by omega
              clear hj1 HJ
              have hil : i < l0.length := by omega
              have b0 : (j : Int) < (l1.length : Int) + 1 := by omega
              have b2 : (i : Int) < (l0.length : Int) + 1 := by omega
              obtain ⟨ad0, e0, hx0⟩ := Kd.at_string HR0.out (i : Int) (by omega) (by omega)
              obtain ⟨ad1, e1, hx1⟩ := Kd.at_string HR1.out (j : Int) (by omega) (by omega)
              cases e0
              cases e1
              rw [Int.toNat_natCast] at hx0 hx1
              replace hx0 := (HB.out.cell (World.block_lt_of_cell? w _ hx0)).trans hx0
              replace hx1 := (HB.out.cell (World.block_lt_of_cell? w _ hx1)).trans hx1
              have hst := lcsAt_step l1 l0 j i (by omega) (by omega)
              have hle := lcsAt_mono l1 l0 j i hjl hil
              have hrg := lcsAt_range l1 l0 (j + 1) (i + 1)
              generalize rdOf ByteArray.empty l0 (i : Int) = s at *
              generalize rdOf ByteArray.empty l1 (j : Int) = t at *
              have HST := Aside0.mk hst
              clear hst
              obtain ⟨gi, ci, hci, hli, hbi, hri, hseti⟩ := tabI_get HS.out j (Nat.le_refl _) (by omega)
              obtain ⟨gk, ck, hck, hlk, hbk, hrk, _⟩ := tabI_get HS.out (j + 1) (by omega) (by omega)
              have v1 := (hrk i (by omega)).1
              have v2 := (hri (i + 1) (by omega)).1
              have v3 := (hrk (i + 1) (by omega)).1
              obtain ⟨v0, f0⟩ := hri i (by omega)
              rw [lcsFrom_at l1 l0 (by omega)] at v1 v2 v3
              have ei0 : (0 : Int) ≤ (j : Int) + 1 := by omega
              have ei1 : (j : Int) + 1 < (l1.length : Int) + 1 := by omega
              have ei2 : ((j : Int) + 1).toNat = j + 1 := by omega
              have ej0 : (0 : Int) ≤ (i : Int) + 1 := by omega
              have ej1 : (i : Int) + 1 < (l0.length : Int) + 1 := by omega
              have ej2 : ((i : Int) + 1).toNat = i + 1 := by omega
              have ei3 : IntKind.i64.wrap ((j : Int) + 1) = (j : Int) + 1 := (i64_w _).trans (w64 (by omega) (by omega))
              have ej3 : IntKind.i64.wrap ((i : Int) + 1) = (i : Int) + 1 := (i64_w _).trans (w64 (by omega) (by omega))
              by_cases c1 : lcsAt l1 l0 (j + 1) i < lcsAt l1 l0 j (i + 1)
              · by_cases c : t.toList = s.toList
                · have b1 : (s.toList == t.toList) = true := by simp [c]
                  have C := Aside0.mk c
                  clear c
                  by_cases c2 : lcsAt l1 l0 j (i + 1) < lcsAt l1 l0 (j + 1) (i + 1) + 1
                  · have hs := hseti i (lcsAt l1 l0 (j + 1) (i + 1) + 1)
                    have e : lcsAt l1 l0 j i = lcsAt l1 l0 (j + 1) (i + 1) + 1 := by have := HST.out; rw [if_pos C.out] at this; omega
                    rw [← e, lcsFrom_set, e] at hs
                    have HS' := Aside0.mk hs
                    clear hs e hri hrk hseti HST
                    generalize lcsAt l1 l0 (j + 1) i = X at *
                    generalize lcsAt l1 l0 j (i + 1) = Y at *
                    generalize lcsAt l1 l0 (j + 1) (i + 1) = Z at *
                    have ez3 : IntKind.i64.wrap (Z + 1) = Z + 1 := (i64_w _).trans (w64 (by omega) (by omega))
                    have d1 : decide (Y > X) = true := by simp; omega
                    have d1' : decide (X < Y) = true := by simp; omega
                    go_wp2_with fail
                    refine still_drew (by kernel_rfl) (by kernel_rfl) ?_
                    iterate 23 (refine still_yes (by kernel_rfl) (fun K hK => ?_); go_simp; refine hK _ ?_; clear hK K)
                    refine wpStill_nil ?_
                    go_wp2
                    go_roundw
                    case rel => exact ⟨i, _, rfl, ⟨by first | rfl | omega, by omega⟩, ⟨Kd.S_drew HS'.out⟩, ⟨(HB.out.setCell (p := ⟨gi, i, none⟩) hbi _).drew⟩⟩
                    case measure => simp [intOf]
                  · have hs := hseti i (lcsAt l1 l0 j (i + 1))
                    have e : lcsAt l1 l0 j i = lcsAt l1 l0 j (i + 1) := by have := HST.out; rw [if_pos C.out] at this; omega
                    rw [← e, lcsFrom_set, e] at hs
                    have HS' := Aside0.mk hs
                    clear hs e hri hrk hseti HST
                    generalize lcsAt l1 l0 (j + 1) i = X at *
                    generalize lcsAt l1 l0 j (i + 1) = Y at *
                    generalize lcsAt l1 l0 (j + 1) (i + 1) = Z at *
                    have ez3 : IntKind.i64.wrap (Z + 1) = Z + 1 := (i64_w _).trans (w64 (by omega) (by omega))
                    have d1 : decide (Y > X) = true := by simp; omega
                    have d1' : decide (X < Y) = true := by simp; omega
                    go_wp2_with fail
                    refine still_drew (by kernel_rfl) (by kernel_rfl) ?_
                    iterate 23 (refine still_yes (by kernel_rfl) (fun K hK => ?_); go_simp; refine hK _ ?_; clear hK K)
                    refine wpStill_nil ?_
                    go_wp2
                    go_roundw
                    case rel => exact ⟨i, _, rfl, ⟨by first | rfl | omega, by omega⟩, ⟨Kd.S_drew HS'.out⟩, ⟨(HB.out.setCell (p := ⟨gi, i, none⟩) hbi _).drew⟩⟩
                    case measure => simp [intOf]
                · have b1 : (s.toList == t.toList) = false := by simp; exact fun h_ => c (by rw [h_])
                  have C := Aside0.mk c
                  clear c
                  have hs := hseti i (lcsAt l1 l0 j (i + 1))
                  have e : lcsAt l1 l0 j i = lcsAt l1 l0 j (i + 1) := by have := HST.out; rw [if_neg C.out] at this; unfold mx at this; rw [if_pos c1] at this; exact this
                  rw [← e, lcsFrom_set, e] at hs
                  have HS' := Aside0.mk hs
                  clear hs e hri hrk hseti HST
                  generalize lcsAt l1 l0 (j + 1) i = X at *
                  generalize lcsAt l1 l0 j (i + 1) = Y at *
                  generalize lcsAt l1 l0 (j + 1) (i + 1) = Z at *
                  have ez3 : IntKind.i64.wrap (Z + 1) = Z + 1 := (i64_w _).trans (w64 (by omega) (by omega))
                  have d1 : decide (Y > X) = true := by simp; omega
                  have d1' : decide (X < Y) = true := by simp; omega
                  go_wp2_with fail
                  refine still_drew (by kernel_rfl) (by kernel_rfl) ?_
                  iterate 10 (refine still_yes (by kernel_rfl) (fun K hK => ?_); go_simp; refine hK _ ?_; clear hK K)
                  iterate 12 (refine still_no (by kernel_rfl) ?_; simp only [Act.put, List.setIfInBounds_toArray, List.set_cons_zero, List.set_cons_succ])
                  iterate 1 (refine still_yes (by kernel_rfl) (fun K hK => ?_); go_simp; refine hK _ ?_; clear hK K)
                  refine wpStill_nil ?_
                  go_wp2
                  go_roundw
                  case rel => exact ⟨i, _, rfl, ⟨by first | rfl | omega, by omega⟩, ⟨Kd.S_drew HS'.out⟩, ⟨(HB.out.setCell (p := ⟨gi, i, none⟩) hbi _).drew⟩⟩
                  case measure => simp [intOf]
              · by_cases c : t.toList = s.toList
                · have b1 : (s.toList == t.toList) = true := by simp [c]
                  have C := Aside0.mk c
                  clear c
                  by_cases c2 : lcsAt l1 l0 (j + 1) i < lcsAt l1 l0 (j + 1) (i + 1) + 1
                  · have hs := hseti i (lcsAt l1 l0 (j + 1) (i + 1) + 1)
                    have e : lcsAt l1 l0 j i = lcsAt l1 l0 (j + 1) (i + 1) + 1 := by have := HST.out; rw [if_pos C.out] at this; omega
                    rw [← e, lcsFrom_set, e] at hs
                    have HS' := Aside0.mk hs
                    clear hs e hri hrk hseti HST
                    generalize lcsAt l1 l0 (j + 1) i = X at *
                    generalize lcsAt l1 l0 j (i + 1) = Y at *
                    generalize lcsAt l1 l0 (j + 1) (i + 1) = Z at *
                    have ez3 : IntKind.i64.wrap (Z + 1) = Z + 1 := (i64_w _).trans (w64 (by omega) (by omega))
                    have d1 : decide (Y > X) = false := by simp; omega
                    have d1' : decide (X < Y) = false := by simp; omega
                    go_wp2_with fail
                    refine still_drew (by kernel_rfl) (by kernel_rfl) ?_
                    iterate 23 (refine still_yes (by kernel_rfl) (fun K hK => ?_); go_simp; refine hK _ ?_; clear hK K)
                    refine wpStill_nil ?_
                    go_wp2
                    go_roundw
                    case rel => exact ⟨i, _, rfl, ⟨by first | rfl | omega, by omega⟩, ⟨Kd.S_drew HS'.out⟩, ⟨(HB.out.setCell (p := ⟨gi, i, none⟩) hbi _).drew⟩⟩
                    case measure => simp [intOf]
                  · have hs := hseti i (lcsAt l1 l0 (j + 1) i)
                    have e : lcsAt l1 l0 j i = lcsAt l1 l0 (j + 1) i := by have := HST.out; rw [if_pos C.out] at this; omega
                    rw [← e, lcsFrom_set, e] at hs
                    have HS' := Aside0.mk hs
                    clear hs e hri hrk hseti HST
                    generalize lcsAt l1 l0 (j + 1) i = X at *
                    generalize lcsAt l1 l0 j (i + 1) = Y at *
                    generalize lcsAt l1 l0 (j + 1) (i + 1) = Z at *
                    have ez3 : IntKind.i64.wrap (Z + 1) = Z + 1 := (i64_w _).trans (w64 (by omega) (by omega))
                    have d1 : decide (Y > X) = false := by simp; omega
                    have d1' : decide (X < Y) = false := by simp; omega
                    go_wp2_with fail
                    refine still_drew (by kernel_rfl) (by kernel_rfl) ?_
                    iterate 23 (refine still_yes (by kernel_rfl) (fun K hK => ?_); go_simp; refine hK _ ?_; clear hK K)
                    refine wpStill_nil ?_
                    go_wp2
                    go_roundw
                    case rel => exact ⟨i, _, rfl, ⟨by first | rfl | omega, by omega⟩, ⟨Kd.S_drew HS'.out⟩, ⟨(HB.out.setCell (p := ⟨gi, i, none⟩) hbi _).drew⟩⟩
                    case measure => simp [intOf]
                · have b1 : (s.toList == t.toList) = false := by simp; exact fun h_ => c (by rw [h_])
                  have C := Aside0.mk c
                  clear c
                  have hs := hseti i (lcsAt l1 l0 (j + 1) i)
                  have e : lcsAt l1 l0 j i = lcsAt l1 l0 (j + 1) i := by have := HST.out; rw [if_neg C.out] at this; unfold mx at this; rw [if_neg c1] at this; exact this
                  rw [← e, lcsFrom_set, e] at hs
                  have HS' := Aside0.mk hs
                  clear hs e hri hrk hseti HST
                  generalize lcsAt l1 l0 (j + 1) i = X at *
                  generalize lcsAt l1 l0 j (i + 1) = Y at *
                  generalize lcsAt l1 l0 (j + 1) (i + 1) = Z at *
                  have ez3 : IntKind.i64.wrap (Z + 1) = Z + 1 := (i64_w _).trans (w64 (by omega) (by omega))
                  have d1 : decide (Y > X) = false := by simp; omega
                  have d1' : decide (X < Y) = false := by simp; omega
                  go_wp2_with fail
                  refine still_drew (by kernel_rfl) (by kernel_rfl) ?_
                  iterate 10 (refine still_yes (by kernel_rfl) (fun K hK => ?_); go_simp; refine hK _ ?_; clear hK K)
                  iterate 12 (refine still_no (by kernel_rfl) ?_; simp only [Act.put, List.setIfInBounds_toArray, List.set_cons_zero, List.set_cons_succ])
                  iterate 1 (refine still_yes (by kernel_rfl) (fun K hK => ?_); go_simp; refine hK _ ?_; clear hK K)
                  refine wpStill_nil ?_
                  go_wp2
                  go_roundw
                  case rel => exact ⟨i, _, rfl, ⟨by first | rfl | omega, by omega⟩, ⟨Kd.S_drew HS'.out⟩, ⟨(HB.out.setCell (p := ⟨gi, i, none⟩) hbi _).drew⟩⟩
                  case measure => simp [intOf]
      · obtain rfl : j = l1.length := by omega
        have hjne : ((l1.length : Int) == (l1.length : Int)) = true := by simp
        go_wp2_with ((with_reducible refine gate_dst (N := 24) rfl ?_); refine Kd.R_make (Kd.int .i64) _ 3 rfl (N := 24) rfl 63 _ _ rfl ((l0.length : Int) + 1) rfl rfl Try.underlying63 (.int .i64 0) 8 changeforgeref1_suffixes_info2 rfl (by decide) (by omega) 0 (ok := fun _ => True) (okp := fun _ => True) rfl (fun _ hk => hk) trivial (by omega) (by omega) (Below.refl _ _) (Nat.le_refl _) ?_; intro v w2 ho hb hg_ hnew_; clear hg_ hnew_; obtain ⟨g2, cap2, A, c, rfl, hcell, hfr, hs2, hb2⟩ := tab_newrow HS.out HB.out hgb hb ho l1.length (by omega); have HS2 := Aside0.mk hs2; have HB2 := Aside0.mk hb2; clear hs2 hb2 hb ho)
        rw [lcsFrom_new, lcsFrom_last] at HS2
        clear HS HB
        go_roundw
        case rel => exact ⟨l1.length, _, rfl, ⟨by first | rfl | omega, by omega⟩, HS2, HB2⟩
        case measure => simp [intOf]
end


end Go.Proofs.Ytifkadmljokffaa.PX
