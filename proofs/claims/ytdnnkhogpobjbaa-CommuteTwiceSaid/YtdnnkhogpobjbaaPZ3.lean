/- Printed by a program of this session out of the translation: Lean functions for Go functions, and proofs that the Go functions answer the same. -/
import Derived.Test.YtdnnkhogpobjbaaPZ0
import Derived.Test.YtdnnkhogpobjbaaPZ1
import Derived.Test.YtdnnkhogpobjbaaPZ2
namespace Go.Proofs.Ytdnnkhogpobjbaa.PZ
open Go.RowKit Go.Proofs.Ytdnnkhogpobjbaa.Pre Go.Proofs.YtdnnkhogpobjbaaW.PrintWords Go.Proofs.YtdnnkhogpobjbaaW.PrintLast Go.Proofs.YtdnnkhogpobjbaaW.PrintMore
attribute [local go_sem] max2_int min2_int max_two min_two max_three min_three max_four min_four   -- for this text's walks alone
set_option linter.unusedVariables false
set_option linter.unusedSimpArgs false

attribute [local go_sem high] eqA27
/-! ### textpatch_Validate_0: function 19 -/
def textpatch_Validate_0.l0 : Nat → Int → List (S47) → Int → Int → Option (Int × Int)
  | 0, _, _, _, _ => none
  | k + 1, x3, x13, x14, x15 => if x15 < x14 then (if 0 ≤ x15 then (if x15 < (x13.length : Int) then ((textpatch_hunkCode.f ((rd_T47 x13 x15).f0) ((rd_T47 x13 x15).f1) ((rd_T47 x13 x15).f2) x3).bind fun t129 => (if t129 = 0 then ((textpatch_End.f ((rd_T47 x13 x15).f0) ((rd_T47 x13 x15).f1) ((rd_T47 x13 x15).f2)).bind fun t130 => (textpatch_Validate_0.l0 k (wrap64 (t130 + 1)) x13 x14 (wrap64 (x15 + 1)))) else (some (t129, x15)))) else (none)) else (none)) else (some (0, 0))
def textpatch_Validate_0.f (k : Nat) (l0_0 : List (S47)) : Option (Int × Int) := if (l0_0.length : Int) > 130 then (some (2, (-1))) else (textpatch_Validate_0.l0 k 0 l0_0 (l0_0.length : Int) 0)
theorem textpatch_Validate_0.mono_l : ∀ k, (∀ y0 y1 y2 y3, LeO (textpatch_Validate_0.l0 k y0 y1 y2 y3) (textpatch_Validate_0.l0 (k + 1) y0 y1 y2 y3))
  | 0 => fun _ _ _ _ r h => by simp [textpatch_Validate_0.l0] at h
  | k + 1 => by
    have ih0 := textpatch_Validate_0.mono_l k
    · intro y0 y1 y2 y3
      unfold textpatch_Validate_0.l0
      repeat' first
      | (with_reducible exact ih0 _ _ _ _)
      | (with_reducible exact LeO.refl _)
      | (with_reducible exact LeO.none _)
      | (with_reducible refine LeO.ite ?_ ?_)
      | (with_reducible refine LeO.bind ?_ (fun _ => ?_))
      | exact ih0 _ _ _ _
      | exact LeO.none _
      | refine LeO.ite ?_ ?_
      | refine LeO.bind ?_ (fun _ => ?_)
theorem textpatch_Validate_0.mono : ∀ a0 k, LeO (textpatch_Validate_0.f k a0) (textpatch_Validate_0.f (k + 1) a0) := by
  intro a0 k
  have ih0 := textpatch_Validate_0.mono_l k
  unfold textpatch_Validate_0.f
  repeat' first
      | (with_reducible exact ih0 _ _ _ _)
      | (with_reducible exact LeO.refl _)
      | (with_reducible exact LeO.none _)
      | (with_reducible refine LeO.ite ?_ ?_)
      | (with_reducible refine LeO.bind ?_ (fun _ => ?_))
      | exact ih0 _ _ _ _
      | exact LeO.none _
      | refine LeO.ite ?_ ?_
      | refine LeO.bind ?_ (fun _ => ?_)
set_option maxHeartbeats 8000000 in
set_option maxRecDepth 100000 in
theorem textpatch_Validate_0.calls (k : Nat) (A0_0 : Option Addr) (c0_0 : Nat) (l0_0 : List (S47)) (r1 : Int) (r2 : Int) (w : World) (hr0_0 : Kd.C k47 w A0_0 l0_0.length l0_0) (hc0_0 : l0_0.length ≤ c0_0) (h : textpatch_Validate_0.f k l0_0 = some (r1, r2)) :
    Calls Try.prog 19 #[.agg #[.slice A0_0 l0_0.length c0_0]] w fun e w' => e = .returned (.agg #[.int .i64 r1, .int .i64 r2]) ∧ Below w.heap.size w w' := by
  have hu24 := Try.underlying24;have hu27 := Try.underlying27;have hu47 := Try.underlying47;have HR0_0 := Aside0.mk hr0_0;have HC0_0 := Aside0.mk hc0_0;clear hr0_0 hc0_0;have HB := Aside0.mk (Below.refl w.heap.size w);have H : (if (l0_0.length : Int) > 130 then (some (2, (-1))) else (textpatch_Validate_0.l0 k 0 l0_0 (l0_0.length : Int) 0)) = some (r1, r2) := h;clear h
  by_cases c2 : (l0_0.length : Int) > 130
  · rw [if_pos c2] at H;have c2b0 : decide (130 < (l0_0.length : Int)) = true := decide_eq_true c2;have c2b1 : decide (130 < l0_0.length) = true := decide_eq_true (by omega);clear c2;simp only [Option.some.injEq, Prod.mk.injEq] at H;obtain ⟨rfl, rfl⟩ := H
    go_enter Try.func19, Try.ntmps19
    go_wp2_with (first|((with_reducible refine gate_dst (N := 1) rfl ?_);refine bE 1 #[.slice A0_0 l0_0.length c0_0] 24 ?_;intro gb125 hg w3 hbox hb;have BK125 := Aside0.mk (hbox);have GW125 := gBe HB hg;have GE125 := gBe HB hg;replace HB := sBe HB hb;clear hb hbox hg)|((with_reducible refine gate_dst (N := 2) rfl ?_);refine bE 2 #[.int .i64 0, .int .i64 0] 27 ?_;intro gb126 hg w4 hbox hb;have BK126 := Aside0.mk (hbox);have GW126 := gBe HB hg;have GE126 := gBe HB hg;have NB125_126 := nL BK125 hg;have NB126_125 := nG BK125 hg;replace BK125 := lJ BK125 hb;replace HB := sBe HB hb;clear hb hbox hg;have hnb5 := NB125_126.out;have hnc5 := NB126_125.out;have hcz6_0 := hC BK125 0 (.slice A0_0 l0_0.length c0_0);have hfz6_0 := blk_frozen BK125.out 0;have hcz7_0 := hC BK126 0 (.int .i64 0);have hcz7_1 := hC BK126 1 (.int .i64 0);have hfz7_0 := blk_frozen BK126.out 0;have hfz7_1 := blk_frozen BK126.out 1))
    refine bodyPost_ret (results_cell_row rfl _ _ gb126 27 #[.int .i64 2, .int .i64 (-1)] (0, 0) _ rfl kK Try.underlying27 rfl (by kernel_rfl)) rfl ?_;exact ⟨rW, eB⟩
  · rw [if_neg c2] at H;have c2b0 : decide (130 < (l0_0.length : Int)) = false := decide_eq_false c2;have c2b1 : decide (130 < l0_0.length) = false := decide_eq_false (by omega);clear c2;have H' := Aside0.mk H;clear H
    go_enter Try.func19, Try.ntmps19
    go_wp2_with (first|((with_reducible refine gate_dst (N := 1) rfl ?_);refine bE 1 #[.slice A0_0 l0_0.length c0_0] 24 ?_;intro gb125 hg w8 hbox hb;have BK125 := Aside0.mk (hbox);have GW125 := gBe HB hg;have GE125 := gBe HB hg;replace HB := sBe HB hb;clear hb hbox hg)|((with_reducible refine gate_dst (N := 2) rfl ?_);refine bE 2 #[.int .i64 0, .int .i64 0] 27 ?_;intro gb126 hg w9 hbox hb;have BK126 := Aside0.mk (hbox);have GW126 := gBe HB hg;have GE126 := gBe HB hg;have NB125_126 := nL BK125 hg;have NB126_125 := nG BK125 hg;replace BK125 := lJ BK125 hb;replace HB := sBe HB hb;clear hb hbox hg;have hnb10 := NB125_126.out;have hnc10 := NB126_125.out;have hcz11_0 := hC BK125 0 (.slice A0_0 l0_0.length c0_0);have hfz11_0 := blk_frozen BK125.out 0))
    go_loopg [3, 15] k (fun kq v3 v15 w' => ∃ (x3_1 : Int) (x15_1 : Int) (x127000_1 : Int) (x127001_1 : Int), v3 = .int .i64 x3_1 ∧ v15 = .int .i64 x15_1 ∧ Aside0 (textpatch_Validate_0.l0 kq x3_1 l0_0 (l0_0.length : Int) x15_1 = some (r1, r2)) ∧ Aside0 (kq ≤ k) ∧ Bk w' gb125 24 #[(.slice A0_0 l0_0.length c0_0)] ∧ Bk w' gb126 27 #[.int .i64 x127000_1, .int .i64 x127001_1] ∧ Aside0 (Below w.heap.size w w'))
    case atStart => exact ⟨(0), (0), (0), (0), (by first|rfl|(simp only [i64_w, i32_w];done)|(simp only [i64_w, i32_w];rfl)|(simp;done)|(simp [*];done)), (by first|rfl|(simp only [i64_w, i32_w];done)|(simp only [i64_w, i32_w];rfl)|(simp;done)|(simp [*];done)), H', ⟨Nat.le_refl _⟩, ⟨kK⟩, ⟨kK⟩, ⟨eB⟩⟩
    case round =>
      clear H'
      try clear c1
      try clear c2
      try clear c2b0
      try clear c2b1
      try clear p2
      try clear c5
      try clear c10
      try clear hcz11_0
      try clear hcz6_0
      try clear hcz7_0
      try clear hcz7_1
      try clear hfz11_0
      try clear hfz6_0
      try clear hfz7_0
      try clear hfz7_1
      obtain ⟨x3_1, x15_1, x127000_1, x127001_1, rfl, rfl, HA, HK1, BK125, BK126, HB⟩ := hrel
      cases gk with
      | zero => exact absurd HA.out (by simp [textpatch_Validate_0.l0])
      | succ k1 =>
        have H := HA.out;clear HA;simp only [textpatch_Validate_0.l0] at H
        by_cases c12 : x15_1 < (l0_0.length : Int)
        · rw [if_pos c12] at H;have c12b0 : decide (x15_1 < (l0_0.length : Int)) = true := decide_eq_true c12;clear c12
          by_cases c13 : 0 ≤ x15_1
          · rw [if_pos c13] at H;have c13b0 : decide (0 ≤ x15_1) = true := decide_eq_true c13;clear c13
            by_cases c14 : x15_1 < (l0_0.length : Int)
            · rw [if_pos c14] at H;have c14b0 : decide (x15_1 < (l0_0.length : Int)) = true := decide_eq_true c14;clear c14;replace H := Option.bind_eq_some_iff.mp H;obtain ⟨t129, A150, H⟩ := H;replace H : (if t129 = 0 then ((textpatch_End.f ((rd_T47 l0_0 x15_1).f0) ((rd_T47 l0_0 x15_1).f1) ((rd_T47 l0_0 x15_1).f2)).bind fun t130 => (textpatch_Validate_0.l0 k1 (wrap64 (t130 + 1)) l0_0 (l0_0.length : Int) (wrap64 (x15_1 + 1)))) else (some (t129, x15_1))) = some (r1, r2) := H;have A15 := Aside0.mk A150;clear A150;have p127 : 0 ≤ (x15_1 : Int) := dA;have q127 : x15_1 < (l0_0.length : Int) := dA;obtain ⟨ad127, A127_1, c127_1, A127_2, c127_2, e127, hx127_0, hx127_1, hx127_2, hl127_1, hi127_1, hl127_2, hi127_2⟩ := at_T47 HR0_0.out x15_1 p127 q127
              cases e127
              replace hx127_0 := (hX HB hx127_0:);replace hx127_1 := (hX HB hx127_1:);replace hx127_2 := (hX HB hx127_2:);have HR127_1 := Aside0.mk hi127_1;have HC127_1 := Aside0.mk hl127_1;clear hi127_1 hl127_1;have HR127_2 := Aside0.mk hi127_2;have HC127_2 := Aside0.mk hl127_2
              by_cases c16 : t129 = 0
              · rw [if_pos c16] at H;have c16b0 : (t129 == 0) = true := beq_iff_eq.mpr c16;have c16b1 : (t129 != 0) = false := bne_eq_false_iff_eq.mpr c16;clear c16;replace H := Option.bind_eq_some_iff.mp H;obtain ⟨t130, A170, H⟩ := H;replace H : (textpatch_Validate_0.l0 k1 (wrap64 (t130 + 1)) l0_0 (l0_0.length : Int) (wrap64 (x15_1 + 1))) = some (r1, r2) := H;have A17 := Aside0.mk A170;clear A170;have H' := Aside0.mk H;clear H;clear hi127_2 hl127_2;replace p127 := eq_true p127;replace q127 := eq_true q127
                go_wp2_with (first|((with_reducible refine gate_dst (N := 5) rfl ?_);refine bE 5 #[.int .i64 0, .slice none 0 0, .slice none 0 0] 47 ?_;intro gb128 hg w18 hbox hb;have BK128 := Aside0.mk (hbox);have GW128 := gBe HB hg;have GE128 := gBe HB hg;have NB125_128 := nL BK125 hg;have NB128_125 := nG BK125 hg;have NB126_128 := nL BK126 hg;have NB128_126 := nG BK126 hg;replace BK125 := lJ BK125 hb;replace BK126 := lJ BK126 hb;replace HB := sBe HB hb;clear hb hbox hg;have hnb19 := NB128_125.out;have hnc19 := NB125_128.out;have hnb20 := NB128_126.out;have hnc20 := NB126_128.out;have hcz21_0 := hC BK128 0 (.int .i64 0);have hcz21_1 := hC BK128 1 (.slice none 0 0);have hcz21_2 := hC BK128 2 (.slice none 0 0);have hfz21_0 := blk_frozen BK128.out 0;have hfz21_1 := blk_frozen BK128.out 1;have hfz21_2 := blk_frozen BK128.out 2)|((with_reducible refine gate_callee (f := 43) rfl ?_);refine goesL_ (some 22) rfl rfl Try.func43 (by kernel_rfl) rfl #[.agg #[.int .i64 ((rd_T47 l0_0 x15_1).f0), .slice A127_1 ((rd_T47 l0_0 x15_1).f1).length c127_1, .slice A127_2 ((rd_T47 l0_0 x15_1).f2).length c127_2], .int .i64 x3_1] rfl mA ?_;(with_reducible refine (textpatch_hunkCode.calls ((rd_T47 l0_0 x15_1).f0) _ _ ((rd_T47 l0_0 x15_1).f1) _ _ ((rd_T47 l0_0 x15_1).f2) x3_1 t129 _ ?side1 ?side2 ?side3 ?side4 A15.out).mono ?_);(case side1 => exact Kd.C_below HR127_1.out eB);(case side2 => exact HC127_1.out);(case side3 => exact Kd.C_below HR127_2.out eB);(case side4 => exact HC127_2.out);rintro e w22 ⟨rfl, hb⟩;refine ⟨_, rfl, ?_⟩;replace BK125 := lJ BK125 hb;replace BK126 := lJ BK126 hb;replace BK128 := lK gb128 47 #[.int .i64 ((rd_T47 l0_0 x15_1).f0), .slice A127_1 ((rd_T47 l0_0 x15_1).f1).length c127_1, .slice A127_2 ((rd_T47 l0_0 x15_1).f2).length c127_2] hb;replace HB := sBe HB hb;(try clear hb);have hcz23_0 := hC BK128 0 (.int .i64 ((rd_T47 l0_0 x15_1).f0));have hcz23_1 := hC BK128 1 (.slice A127_1 ((rd_T47 l0_0 x15_1).f1).length c127_1);have hcz23_2 := hC BK128 2 (.slice A127_2 ((rd_T47 l0_0 x15_1).f2).length c127_2);have hfz23_0 := blk_frozen BK128.out 0;have hfz23_1 := blk_frozen BK128.out 1;have hfz23_2 := blk_frozen BK128.out 2)|((with_reducible refine gate_callee (f := 33) rfl ?_);refine goesL_ (some 29) rfl rfl Try.func33 (by kernel_rfl) rfl #[.agg #[.int .i64 ((rd_T47 l0_0 x15_1).f0), .slice A127_1 ((rd_T47 l0_0 x15_1).f1).length c127_1, .slice A127_2 ((rd_T47 l0_0 x15_1).f2).length c127_2]] rfl mA ?_;(with_reducible refine (textpatch_End.calls ((rd_T47 l0_0 x15_1).f0) _ _ ((rd_T47 l0_0 x15_1).f1) _ _ ((rd_T47 l0_0 x15_1).f2) t130 _ ?side1 ?side2 ?side3 ?side4 A17.out).mono ?_);(case side1 => exact cBe HR127_1);(case side2 => exact HC127_1.out);(case side3 => exact cBe HR127_2);(case side4 => exact HC127_2.out);rintro e w24 ⟨rfl, hb⟩;refine ⟨_, rfl, ?_⟩;replace BK125 := lJ BK125 hb;replace BK126 := lJ BK126 hb;replace BK128 := lJ BK128 hb;replace HB := sBe HB hb;(try clear hb)))
                go_roundg k1
                case measure => have := HK1.out;omega
                case rel => exact ⟨(wrap64 (t130 + 1)), (wrap64 (x15_1 + 1)), (x127000_1), (x127001_1), (by first|rfl|(simp only [i64_w, i32_w];done)|(simp only [i64_w, i32_w];rfl)|(simp;done)|(simp [*];done)), (by first|rfl|(simp only [i64_w, i32_w];done)|(simp only [i64_w, i32_w];rfl)|(simp;done)|(simp [*];done)), H', ⟨by have := HK1.out;omega⟩, ⟨kK⟩, ⟨kK⟩, ⟨eB⟩⟩
              · rw [if_neg c16] at H;have c16b0 : (t129 == 0) = false := beq_eq_false_iff_ne.mpr c16;have c16b1 : (t129 != 0) = true := bne_iff_ne.mpr c16;simp only [Option.some.injEq, Prod.mk.injEq] at H;obtain ⟨rfl, rfl⟩ := H;clear hi127_2 hl127_2;replace p127 := eq_true p127;replace q127 := eq_true q127
                go_wp2_with (first|((with_reducible refine gate_dst (N := 5) rfl ?_);refine bE 5 #[.int .i64 0, .slice none 0 0, .slice none 0 0] 47 ?_;intro gb128 hg w25 hbox hb;have BK128 := Aside0.mk (hbox);have GW128 := gBe HB hg;have GE128 := gBe HB hg;have NB125_128 := nL BK125 hg;have NB128_125 := nG BK125 hg;have NB126_128 := nL BK126 hg;have NB128_126 := nG BK126 hg;replace BK125 := lJ BK125 hb;replace BK126 := lJ BK126 hb;replace HB := sBe HB hb;clear hb hbox hg;have hnb26 := NB128_125.out;have hnc26 := NB125_128.out;have hnb27 := NB128_126.out;have hnc27 := NB126_128.out;have hcz28_0 := hC BK128 0 (.int .i64 0);have hcz28_1 := hC BK128 1 (.slice none 0 0);have hcz28_2 := hC BK128 2 (.slice none 0 0);have hfz28_0 := blk_frozen BK128.out 0;have hfz28_1 := blk_frozen BK128.out 1;have hfz28_2 := blk_frozen BK128.out 2)|((with_reducible refine gate_callee (f := 43) rfl ?_);refine goesL_ (some 22) rfl rfl Try.func43 (by kernel_rfl) rfl #[.agg #[.int .i64 ((rd_T47 l0_0 x15_1).f0), .slice A127_1 ((rd_T47 l0_0 x15_1).f1).length c127_1, .slice A127_2 ((rd_T47 l0_0 x15_1).f2).length c127_2], .int .i64 x3_1] rfl mA ?_;(with_reducible refine (textpatch_hunkCode.calls ((rd_T47 l0_0 x15_1).f0) _ _ ((rd_T47 l0_0 x15_1).f1) _ _ ((rd_T47 l0_0 x15_1).f2) x3_1 t129 _ ?side1 ?side2 ?side3 ?side4 A15.out).mono ?_);(case side1 => exact Kd.C_below HR127_1.out eB);(case side2 => exact HC127_1.out);(case side3 => exact Kd.C_below HR127_2.out eB);(case side4 => exact HC127_2.out);rintro e w29 ⟨rfl, hb⟩;refine ⟨_, rfl, ?_⟩;replace BK125 := lJ BK125 hb;replace BK126 := lJ BK126 hb;replace BK128 := lK gb128 47 #[.int .i64 ((rd_T47 l0_0 x15_1).f0), .slice A127_1 ((rd_T47 l0_0 x15_1).f1).length c127_1, .slice A127_2 ((rd_T47 l0_0 x15_1).f2).length c127_2] hb;replace HB := sBe HB hb;(try clear hb);have hnb30 := NB126_125.out;have hnc30 := NB125_126.out;have hcz31_0 := hC BK126 0 (.int .i64 x127000_1);have hcz31_1 := hC BK126 1 (.int .i64 x127001_1);have hfz31_0 := blk_frozen BK126.out 0;have hfz31_1 := blk_frozen BK126.out 1))
                refine bodyPost_ret (results_cell_row rfl _ _ gb126 27 #[.int .i64 t129, .int .i64 x15_1] (0, 0) _ rfl kK Try.underlying27 rfl (by kernel_rfl)) rfl ?_;exact ⟨rW, eB⟩
            · rw [if_neg c14] at H;exact absurd H (by simp)
          · rw [if_neg c13] at H;exact absurd H (by simp)
        · rw [if_neg c12] at H;have c12b0 : decide (x15_1 < (l0_0.length : Int)) = false := decide_eq_false c12;clear c12;simp only [Option.some.injEq, Prod.mk.injEq] at H;obtain ⟨rfl, rfl⟩ := H;have hnb32 := NB126_125.out;have hnc32 := NB125_126.out;have hcz33_0 : wr.cell? ⟨gb126, 0, none⟩ = some (.int .i64 x127000_1) := (blk_cell BK126.out 0).trans rfl;have hcz33_1 : wr.cell? ⟨gb126, 1, none⟩ = some (.int .i64 x127001_1) := (blk_cell BK126.out 1).trans rfl;have hfz33_0 := blk_frozen BK126.out 0;have hfz33_1 := blk_frozen BK126.out 1
          go_wp2
          refine bodyPost_ret (results_cell_row rfl _ _ gb126 27 #[.int .i64 0, .int .i64 0] (0, 0) _ rfl kK Try.underlying27 rfl (by kernel_rfl)) rfl ?_;exact ⟨rW, eB⟩

/-! ### textpatch_Validate: function 19 -/
theorem textpatch_Validate_0.loop (xs : List S47) (hl : xs.length ≤ 130) (d : Nat) : ∀ (k i : Nat) (low : Int), i ≤ xs.length → xs.length - i = d → d < k → textpatch_Validate_0.l0 k low xs (xs.length : Int) (i : Int) = some (pvGo ((xs.drop i).map (fun x_ : S47 => ((x_.f0, x_.f1, x_.f2) : Hk))) low (i : Int)) := by
  induction d with
  | zero =>
    intro k i low hi hd hk
    obtain ⟨k, rfl⟩ : ∃ m, k = m + 1 := ⟨k - 1, by omega⟩
    simp only [textpatch_Validate_0.l0]
    rw [if_neg (by omega), List.drop_eq_nil_of_le (by omega)]
    rfl
  | succ d ih =>
    intro k i low hi hd hk
    obtain ⟨k, rfl⟩ : ∃ m, k = m + 1 := ⟨k - 1, by omega⟩
    have hdr : xs.drop i = rd_T47 xs (i : Int) :: xs.drop (i + 1) := rdOf_drop z47 xs i (by omega)
    rw [hdr, List.map_cons]
    simp only [textpatch_Validate_0.l0, textpatch_hunkCode.f, textpatch_End.f, Option.bind_some]
    generalize rd_T47 xs (i : Int) = h
    rw [if_pos (by omega), if_pos (by omega), if_pos (by omega), pvGo]
    by_cases c : hkCode (h.f0, h.f1, h.f2) low = 0
    · have hok := (hkCode_zero _ _).1 c
      have h1 := hok.1
      have h2 := hok.2.1
      have h3 := (linesFault_ok.1 hok.2.2.2.1).1
      simp only at h1 h2 h3
      rw [if_pos c, if_pos c, w64 (n := h.f0 + (h.f1.length : Int)) (by omega) (by omega), w64 (n := h.f0 + (h.f1.length : Int) + 1) (by omega) (by omega), w64 (n := (i : Int) + 1) (by omega) (by omega)]
      have := ih k (i + 1) (hkEnd (h.f0, h.f1, h.f2) + 1) (by omega) (by omega) (by omega)
      rw [show ((i + 1 : Nat) : Int) = (i : Int) + 1 by omega] at this
      exact this
    · rw [if_neg c, if_neg c]
def textpatch_Validate.f (l0_0 : List (S47)) : Option (Int × Int) :=  some (patchFault (l0_0.map (fun x_ : S47 => ((x_.f0, x_.f1, x_.f2) : Hk))))
theorem textpatch_Validate.calls (A0_0 : Option Addr) (c0_0 : Nat) (l0_0 : List (S47)) (r1 : Int) (r2 : Int) (w : World) (hr0_0 : Kd.C k47 w A0_0 l0_0.length l0_0) (hc0_0 : l0_0.length ≤ c0_0) (h : textpatch_Validate.f l0_0 = some (r1, r2)) :
    Calls Try.prog 19 #[.agg #[.slice A0_0 l0_0.length c0_0]] w fun e w' => e = .returned (.agg #[.int .i64 r1, .int .i64 r2]) ∧ Below w.heap.size w w' := by
  have h' : textpatch_Validate_0.f 131 l0_0 = some (r1, r2) := by
    rw [← h]
    unfold textpatch_Validate_0.f textpatch_Validate.f patchFault
    rw [List.length_map]
    by_cases c : 130 < l0_0.length
    · rw [if_pos (by omega), if_pos c]
    · rw [if_neg (by omega), if_neg c]
      exact textpatch_Validate_0.loop l0_0 (by omega) l0_0.length 131 0 0 (by omega) (by omega) (by omega)
  exact (textpatch_Validate_0.calls (131) A0_0 c0_0 l0_0 r1 r2 w hr0_0 hc0_0 (h'))


/-! ### textpatch_Fit: function 40 -/
def textpatch_Fit.f (l0_0 : List (S47)) : Option ((List (S47)) × Int × Int) := (textpatch_Validate.f l0_0).bind fun bt134 => (if (!(bt134.1 == 0) || (!(bt134.2 == 0))) = true then (some (([] : List (S47)), 10, (-1))) else (some (l0_0, 0, 0)))
set_option maxHeartbeats 8000000 in
set_option maxRecDepth 100000 in
theorem textpatch_Fit.calls (P0_0_ : Nat → Prop) (A0_0 : Option Addr) (c0_0 : Nat) (l0_0 : List (S47)) (r1 : List (S47)) (r2 : Int) (r3 : Int) (w : World) (hs0_0 : Kd.V k47 47 w w.heap.size (fun k_ => P0_0_ k_) (.slice A0_0 l0_0.length c0_0) l0_0) (h : textpatch_Fit.f l0_0 = some (r1, r2, r3)) :
    Calls Try.prog 40 #[.agg #[.slice A0_0 l0_0.length c0_0]] w fun e w' => ∃ v0_ : Value, e = .returned (.tuple #[.agg #[v0_], .agg #[.int .i64 r2, .int .i64 r3]]) ∧ Kd.V k47 47 w' w.heap.size (fun k_ => (P0_0_ k_ ∨ w.heap.size ≤ k_)) v0_ r1 ∧ Below w.heap.size w w' := by
  have hu24 := Try.underlying24;have hu27 := Try.underlying27;have HO0_0 := Aside0.mk (show Kd.V k47 47 w w.heap.size (fun k_ => (P0_0_ k_ ∨ w.heap.size ≤ k_)) (.slice A0_0 l0_0.length c0_0) l0_0 from Kd.V_mono hs0_0 (fun k_ hk => .inl hk));have HB := Aside0.mk (Below.refl w.heap.size w);have H : ((textpatch_Validate.f l0_0).bind fun bt134 => (if (!(bt134.1 == 0) || (!(bt134.2 == 0))) = true then (some (([] : List (S47)), 10, (-1))) else (some (l0_0, 0, 0)))) = some (r1, r2, r3) := h;clear h;replace H := Option.bind_eq_some_iff.mp H;obtain ⟨⟨t134, t135⟩, A20, H⟩ := H;replace H : (if (!(t134 == 0) || (!(t135 == 0))) = true then (some (([] : List (S47)), 10, (-1))) else (some (l0_0, 0, 0))) = some (r1, r2, r3) := H;have A2 := Aside0.mk A20;clear A20
  by_cases c3 : (!(t134 == 0) || (!(t135 == 0))) = true
  · rw [if_pos c3] at H;have c3b0 : (!(t134 == 0) || (!(t135 == 0))) = true := c3;clear c3;simp only [Option.some.injEq, Prod.mk.injEq] at H;obtain ⟨rfl, rfl, rfl⟩ := H
    go_enter Try.func40, Try.ntmps40
    go_wp2_with (first|((with_reducible refine gate_dst (N := 1) rfl ?_);refine bE 1 #[.slice A0_0 l0_0.length c0_0] 24 ?_;intro gb131 hg w4 hbox hb;have BK131 := Aside0.mk (hbox);have GW131 := gBe HB hg;have GE131 := gBe HB hg;replace HO0_0 := vE HO0_0 gb131 hg hb;replace HB := sBe HB hb;clear hb hbox hg)|((with_reducible refine gate_dst (N := 2) rfl ?_);refine bE 2 #[.slice none 0 0] 24 ?_;intro gb132 hg w5 hbox hb;have BK132 := Aside0.mk (hbox);have GW132 := gBe HB hg;have GE132 := gBe HB hg;have NB131_132 := nL BK131 hg;have NB132_131 := nG BK131 hg;replace HO0_0 := vE HO0_0 gb132 hg hb;replace BK131 := lJ BK131 hb;replace HB := sBe HB hb;clear hb hbox hg)|((with_reducible refine gate_dst (N := 3) rfl ?_);refine bE 3 #[.int .i64 0, .int .i64 0] 27 ?_;intro gb133 hg w6 hbox hb;have BK133 := Aside0.mk (hbox);have GW133 := gBe HB hg;have GE133 := gBe HB hg;have NB131_133 := nL BK131 hg;have NB133_131 := nG BK131 hg;have NB132_133 := nL BK132 hg;have NB133_132 := nG BK132 hg;replace HO0_0 := vE HO0_0 gb133 hg hb;replace BK131 := lJ BK131 hb;replace BK132 := lJ BK132 hb;replace HB := sBe HB hb;clear hb hbox hg;have hnb7 := NB131_132.out;have hnc7 := NB132_131.out;have hnb8 := NB131_133.out;have hnc8 := NB133_131.out;have hcz9_0 := hC BK131 0 (.slice A0_0 l0_0.length c0_0);have hfz9_0 := blk_frozen BK131.out 0)|((with_reducible refine gate_callee (f := 19) rfl ?_);refine goesL_ (some 5) rfl rfl Try.func19 (by kernel_rfl) rfl #[.agg #[.slice A0_0 l0_0.length c0_0]] rfl mA ?_;(with_reducible refine (textpatch_Validate.calls _ _ l0_0 t134 t135 _ ?side1 ?side2 A2.out).mono ?_);(case side1 => repeat (first|exact (Kd.V_reads' HO0_0.out).2.2|(with_reducible refine Kd.C_alloc ?_ _)|(with_reducible refine Kd.C_drewN ?_ _)|(with_reducible refine Kd.C_drew ?_)));(case side2 => exact (Kd.V_reads' HO0_0.out).2.1);rintro e w10 ⟨rfl, hb⟩;refine ⟨_, rfl, ?_⟩;replace HO0_0 := Aside0.mk (Kd.V_below (vK HO0_0) hb);replace BK131 := lJ BK131 hb;replace BK132 := lJ BK132 hb;replace BK133 := lJ BK133 hb;replace HB := sBe HB hb;(try clear hb);have hnb11 := NB132_133.out;have hnc11 := NB133_132.out;have hcz12_0 := hC BK132 0 (.slice none 0 0);have hfz12_0 := blk_frozen BK132.out 0;have hcz13_0 := hC BK133 0 (.int .i64 0);have hcz13_1 := hC BK133 1 (.int .i64 0);have hfz13_0 := blk_frozen BK133.out 0;have hfz13_1 := blk_frozen BK133.out 1))
    refine bodyPost_ret (results_cc rfl _ _ gb132 gb133 24 27 #[.slice none 0 0] #[.int .i64 10, .int .i64 (-1)] (0, 0) (0, 0) _ _ rfl kK Try.underlying24 rfl (by kernel_rfl) rfl kK Try.underlying27 rfl (by kernel_rfl)) rfl ?_;exact ⟨_, rW, Kd.V_mono (Kd.S_V (Kd.S_nil _ _ _ 0 _)) (fun k_ hk => by first|exact ⟨(.inr (hk.1)), hk.2⟩|exact (.inr (hk))), eB⟩
  · rw [if_neg c3] at H;have c3b0 : (!(t134 == 0) || (!(t135 == 0))) = false := (by simpa using c3);clear c3;simp only [Option.some.injEq, Prod.mk.injEq] at H;obtain ⟨rfl, rfl, rfl⟩ := H
    go_enter Try.func40, Try.ntmps40
    go_wp2_with (first|((with_reducible refine gate_dst (N := 1) rfl ?_);refine bE 1 #[.slice A0_0 l0_0.length c0_0] 24 ?_;intro gb131 hg w14 hbox hb;have BK131 := Aside0.mk (hbox);have GW131 := gBe HB hg;have GE131 := gBe HB hg;replace HO0_0 := vE HO0_0 gb131 hg hb;replace HB := sBe HB hb;clear hb hbox hg)|((with_reducible refine gate_dst (N := 2) rfl ?_);refine bE 2 #[.slice none 0 0] 24 ?_;intro gb132 hg w15 hbox hb;have BK132 := Aside0.mk (hbox);have GW132 := gBe HB hg;have GE132 := gBe HB hg;have NB131_132 := nL BK131 hg;have NB132_131 := nG BK131 hg;replace HO0_0 := vE HO0_0 gb132 hg hb;replace BK131 := lJ BK131 hb;replace HB := sBe HB hb;clear hb hbox hg)|((with_reducible refine gate_dst (N := 3) rfl ?_);refine bE 3 #[.int .i64 0, .int .i64 0] 27 ?_;intro gb133 hg w16 hbox hb;have BK133 := Aside0.mk (hbox);have GW133 := gBe HB hg;have GE133 := gBe HB hg;have NB131_133 := nL BK131 hg;have NB133_131 := nG BK131 hg;have NB132_133 := nL BK132 hg;have NB133_132 := nG BK132 hg;replace HO0_0 := vE HO0_0 gb133 hg hb;replace BK131 := lJ BK131 hb;replace BK132 := lJ BK132 hb;replace HB := sBe HB hb;clear hb hbox hg;have hnb17 := NB131_132.out;have hnc17 := NB132_131.out;have hnb18 := NB131_133.out;have hnc18 := NB133_131.out;have hcz19_0 := hC BK131 0 (.slice A0_0 l0_0.length c0_0);have hfz19_0 := blk_frozen BK131.out 0)|((with_reducible refine gate_callee (f := 19) rfl ?_);refine goesL_ (some 5) rfl rfl Try.func19 (by kernel_rfl) rfl #[.agg #[.slice A0_0 l0_0.length c0_0]] rfl mA ?_;(with_reducible refine (textpatch_Validate.calls _ _ l0_0 t134 t135 _ ?side1 ?side2 A2.out).mono ?_);(case side1 => repeat (first|exact (Kd.V_reads' HO0_0.out).2.2|(with_reducible refine Kd.C_alloc ?_ _)|(with_reducible refine Kd.C_drewN ?_ _)|(with_reducible refine Kd.C_drew ?_)));(case side2 => exact (Kd.V_reads' HO0_0.out).2.1);rintro e w20 ⟨rfl, hb⟩;refine ⟨_, rfl, ?_⟩;replace HO0_0 := Aside0.mk (Kd.V_below (vK HO0_0) hb);replace BK131 := lJ BK131 hb;replace BK132 := lJ BK132 hb;replace BK133 := lJ BK133 hb;replace HB := sBe HB hb;(try clear hb);have hcz21_0 := hC BK131 0 (.slice A0_0 l0_0.length c0_0);have hfz21_0 := blk_frozen BK131.out 0;have hnb22 := NB132_133.out;have hnc22 := NB133_132.out;have hcz23_0 := hC BK132 0 (.slice none 0 0);have hfz23_0 := blk_frozen BK132.out 0;have hcz24_0 := hC BK133 0 (.int .i64 0);have hcz24_1 := hC BK133 1 (.int .i64 0);have hfz24_0 := blk_frozen BK133.out 0;have hfz24_1 := blk_frozen BK133.out 1))
    refine bodyPost_ret (results_cc rfl _ _ gb132 gb133 24 27 #[.slice A0_0 l0_0.length c0_0] #[.int .i64 0, .int .i64 0] (0, 0) (0, 0) _ _ rfl kK Try.underlying24 rfl (by kernel_rfl) rfl kK Try.underlying27 rfl (by kernel_rfl)) rfl ?_;exact ⟨_, rW, by (with_reducible repeat (first|apply Kd.V_alloc|apply Kd.V_drewN|apply Kd.V_drew));exact Kd.V_mono (Kd.V_far (p := ⟨gb133, 1, none⟩) (Kd.V_far (p := ⟨gb133, 0, none⟩) (Kd.V_far (p := ⟨gb132, 0, none⟩) (Kd.V_mono (Kd.V_mono HO0_0.out (fun k_ hk => (⟨hk, hk.1.2⟩ : _ ∧ k_ ≠ gb132))) (fun k_ hk => (⟨hk, hk.1.2⟩ : _ ∧ k_ ≠ gb133))) (fun _ hk => hk.1.2) (.slice A0_0 l0_0.length c0_0)) (fun _ hk => hk.2) (.int .i64 0)) (fun _ hk => hk.2) (.int .i64 0)) (fun _ hk => hk.1.1.1.1.1), eB⟩

/-! ### commute_check: function 50 -/
def commute_check.f (l0_0 : List (S47)) (l1_0 : List (S47)) : Option (Int × Int) := (textpatch_Validate.f l0_0).bind fun bt139 => (if (!(bt139.1 == 0) || (!(bt139.2 == 0))) = true then (some (bt139.1, bt139.2)) else ((textpatch_Validate.f l1_0).bind fun bt142 => (if (!(bt142.1 == 0) || (!(bt142.2 == 0))) = true then (some (bt142.1, (-2))) else (some (0, 0)))))
set_option maxHeartbeats 8000000 in
set_option maxRecDepth 100000 in
theorem commute_check.calls (A0_0 : Option Addr) (c0_0 : Nat) (l0_0 : List (S47)) (A1_0 : Option Addr) (c1_0 : Nat) (l1_0 : List (S47)) (r1 : Int) (r2 : Int) (w : World) (hr0_0 : Kd.C k47 w A0_0 l0_0.length l0_0) (hc0_0 : l0_0.length ≤ c0_0) (hr1_0 : Kd.C k47 w A1_0 l1_0.length l1_0) (hc1_0 : l1_0.length ≤ c1_0) (h : commute_check.f l0_0 l1_0 = some (r1, r2)) :
    Calls Try.prog 50 #[.agg #[.slice A0_0 l0_0.length c0_0], .agg #[.slice A1_0 l1_0.length c1_0]] w fun e w' => e = .returned (.agg #[.int .i64 r1, .int .i64 r2]) ∧ Below w.heap.size w w' := by
  have hu24 := Try.underlying24;have hu27 := Try.underlying27;have HR0_0 := Aside0.mk hr0_0;have HC0_0 := Aside0.mk hc0_0;clear hr0_0 hc0_0;have HR1_0 := Aside0.mk hr1_0;have HC1_0 := Aside0.mk hc1_0;clear hr1_0 hc1_0;have HB := Aside0.mk (Below.refl w.heap.size w);have H : ((textpatch_Validate.f l0_0).bind fun bt139 => (if (!(bt139.1 == 0) || (!(bt139.2 == 0))) = true then (some (bt139.1, bt139.2)) else ((textpatch_Validate.f l1_0).bind fun bt142 => (if (!(bt142.1 == 0) || (!(bt142.2 == 0))) = true then (some (bt142.1, (-2))) else (some (0, 0)))))) = some (r1, r2) := h;clear h;replace H := Option.bind_eq_some_iff.mp H;obtain ⟨⟨t139, t140⟩, A30, H⟩ := H;replace H : (if (!(t139 == 0) || (!(t140 == 0))) = true then (some (t139, t140)) else ((textpatch_Validate.f l1_0).bind fun bt142 => (if (!(bt142.1 == 0) || (!(bt142.2 == 0))) = true then (some (bt142.1, (-2))) else (some (0, 0))))) = some (r1, r2) := H;have A3 := Aside0.mk A30;clear A30
  by_cases c4 : (!(t139 == 0) || (!(t140 == 0))) = true
  · rw [if_pos c4] at H;have c4b0 : (!(t139 == 0) || (!(t140 == 0))) = true := c4;clear c4;simp only [Option.some.injEq, Prod.mk.injEq] at H;obtain ⟨rfl, rfl⟩ := H
    go_enter Try.func50, Try.ntmps50
    go_wp2_with (first|((with_reducible refine gate_dst (N := 2) rfl ?_);refine bE 2 #[.slice A0_0 l0_0.length c0_0] 24 ?_;intro gb136 hg w5 hbox hb;have BK136 := Aside0.mk (hbox);have GW136 := gBe HB hg;have GE136 := gBe HB hg;replace HB := sBe HB hb;clear hb hbox hg)|((with_reducible refine gate_dst (N := 3) rfl ?_);refine bE 3 #[.slice A1_0 l1_0.length c1_0] 24 ?_;intro gb137 hg w6 hbox hb;have BK137 := Aside0.mk (hbox);have GW137 := gBe HB hg;have GE137 := gBe HB hg;have NB136_137 := nL BK136 hg;have NB137_136 := nG BK136 hg;replace BK136 := lJ BK136 hb;replace HB := sBe HB hb;clear hb hbox hg)|((with_reducible refine gate_dst (N := 4) rfl ?_);refine bE 4 #[.int .i64 0, .int .i64 0] 27 ?_;intro gb138 hg w7 hbox hb;have BK138 := Aside0.mk (hbox);have GW138 := gBe HB hg;have GE138 := gBe HB hg;have NB136_138 := nL BK136 hg;have NB138_136 := nG BK136 hg;have NB137_138 := nL BK137 hg;have NB138_137 := nG BK137 hg;replace BK136 := lJ BK136 hb;replace BK137 := lJ BK137 hb;replace HB := sBe HB hb;clear hb hbox hg;have hnb8 := NB136_137.out;have hnc8 := NB137_136.out;have hnb9 := NB136_138.out;have hnc9 := NB138_136.out;have hcz10_0 := hC BK136 0 (.slice A0_0 l0_0.length c0_0);have hfz10_0 := blk_frozen BK136.out 0)|((with_reducible refine gate_callee (f := 19) rfl ?_);refine goesL_ (some 8) rfl rfl Try.func19 (by kernel_rfl) rfl #[.agg #[.slice A0_0 l0_0.length c0_0]] rfl mA ?_;(with_reducible refine (textpatch_Validate.calls _ _ l0_0 t139 t140 _ ?side1 ?side2 A3.out).mono ?_);(case side1 => exact cBe HR0_0);(case side2 => exact HC0_0.out);rintro e w11 ⟨rfl, hb⟩;refine ⟨_, rfl, ?_⟩;replace BK136 := lJ BK136 hb;replace BK137 := lJ BK137 hb;replace BK138 := lJ BK138 hb;replace HB := sBe HB hb;(try clear hb))|((with_reducible refine gate_dst (N := 5) rfl ?_);refine bE 5 #[.int .i64 0, .int .i64 0] 27 ?_;intro gb141 hg w12 hbox hb;have BK141 := Aside0.mk (hbox);have GW141 := gBe HB hg;have GE141 := gBe HB hg;have NB136_141 := nL BK136 hg;have NB141_136 := nG BK136 hg;have NB137_141 := nL BK137 hg;have NB141_137 := nG BK137 hg;have NB138_141 := nL BK138 hg;have NB141_138 := nG BK138 hg;replace BK136 := lJ BK136 hb;replace BK137 := lJ BK137 hb;replace BK138 := lJ BK138 hb;replace HB := sBe HB hb;clear hb hbox hg;have hnb13 := NB141_136.out;have hnc13 := NB136_141.out;have hnb14 := NB141_137.out;have hnc14 := NB137_141.out;have hnb15 := NB141_138.out;have hnc15 := NB138_141.out;have hcz16_0 := hC BK141 0 (.int .i64 0);have hcz16_1 := hC BK141 1 (.int .i64 0);have hfz16_0 := blk_frozen BK141.out 0;have hfz16_1 := blk_frozen BK141.out 1;have hnb17 := NB138_137.out;have hnc17 := NB137_138.out;have hcz18_0 := hC BK138 0 (.int .i64 0);have hcz18_1 := hC BK138 1 (.int .i64 0);have hfz18_0 := blk_frozen BK138.out 0;have hfz18_1 := blk_frozen BK138.out 1))
    refine bodyPost_ret (results_cell_row rfl _ _ gb138 27 #[.int .i64 t139, .int .i64 t140] (0, 0) _ rfl kK Try.underlying27 rfl (by kernel_rfl)) rfl ?_;exact ⟨rW, eB⟩
  · rw [if_neg c4] at H;have c4b0 : (!(t139 == 0) || (!(t140 == 0))) = false := (by simpa using c4);clear c4;replace H := Option.bind_eq_some_iff.mp H;obtain ⟨⟨t142, t143⟩, A190, H⟩ := H;replace H : (if (!(t142 == 0) || (!(t143 == 0))) = true then (some (t142, (-2))) else (some (0, 0))) = some (r1, r2) := H;have A19 := Aside0.mk A190;clear A190
    by_cases c20 : (!(t142 == 0) || (!(t143 == 0))) = true
    · rw [if_pos c20] at H;have c20b0 : (!(t142 == 0) || (!(t143 == 0))) = true := c20;clear c20;simp only [Option.some.injEq, Prod.mk.injEq] at H;obtain ⟨rfl, rfl⟩ := H
      go_enter Try.func50, Try.ntmps50
      go_wp2_with (first|((with_reducible refine gate_dst (N := 2) rfl ?_);refine bE 2 #[.slice A0_0 l0_0.length c0_0] 24 ?_;intro gb136 hg w21 hbox hb;have BK136 := Aside0.mk (hbox);have GW136 := gBe HB hg;have GE136 := gBe HB hg;replace HB := sBe HB hb;clear hb hbox hg)|((with_reducible refine gate_dst (N := 3) rfl ?_);refine bE 3 #[.slice A1_0 l1_0.length c1_0] 24 ?_;intro gb137 hg w22 hbox hb;have BK137 := Aside0.mk (hbox);have GW137 := gBe HB hg;have GE137 := gBe HB hg;have NB136_137 := nL BK136 hg;have NB137_136 := nG BK136 hg;replace BK136 := lJ BK136 hb;replace HB := sBe HB hb;clear hb hbox hg)|((with_reducible refine gate_dst (N := 4) rfl ?_);refine bE 4 #[.int .i64 0, .int .i64 0] 27 ?_;intro gb138 hg w23 hbox hb;have BK138 := Aside0.mk (hbox);have GW138 := gBe HB hg;have GE138 := gBe HB hg;have NB136_138 := nL BK136 hg;have NB138_136 := nG BK136 hg;have NB137_138 := nL BK137 hg;have NB138_137 := nG BK137 hg;replace BK136 := lJ BK136 hb;replace BK137 := lJ BK137 hb;replace HB := sBe HB hb;clear hb hbox hg;have hnb24 := NB136_137.out;have hnc24 := NB137_136.out;have hnb25 := NB136_138.out;have hnc25 := NB138_136.out;have hcz26_0 := hC BK136 0 (.slice A0_0 l0_0.length c0_0);have hfz26_0 := blk_frozen BK136.out 0)|((with_reducible refine gate_callee (f := 19) rfl ?_);refine goesL_ (some 8) rfl rfl Try.func19 (by kernel_rfl) rfl #[.agg #[.slice A0_0 l0_0.length c0_0]] rfl mA ?_;(with_reducible refine (textpatch_Validate.calls _ _ l0_0 t139 t140 _ ?side1 ?side2 A3.out).mono ?_);(case side1 => exact cBe HR0_0);(case side2 => exact HC0_0.out);rintro e w27 ⟨rfl, hb⟩;refine ⟨_, rfl, ?_⟩;replace BK136 := lJ BK136 hb;replace BK137 := lJ BK137 hb;replace BK138 := lJ BK138 hb;replace HB := sBe HB hb;(try clear hb))|((with_reducible refine gate_dst (N := 5) rfl ?_);refine bE 5 #[.int .i64 0, .int .i64 0] 27 ?_;intro gb141 hg w28 hbox hb;have BK141 := Aside0.mk (hbox);have GW141 := gBe HB hg;have GE141 := gBe HB hg;have NB136_141 := nL BK136 hg;have NB141_136 := nG BK136 hg;have NB137_141 := nL BK137 hg;have NB141_137 := nG BK137 hg;have NB138_141 := nL BK138 hg;have NB141_138 := nG BK138 hg;replace BK136 := lJ BK136 hb;replace BK137 := lJ BK137 hb;replace BK138 := lJ BK138 hb;replace HB := sBe HB hb;clear hb hbox hg;have hnb29 := NB141_136.out;have hnc29 := NB136_141.out;have hnb30 := NB141_137.out;have hnc30 := NB137_141.out;have hnb31 := NB141_138.out;have hnc31 := NB138_141.out;have hcz32_0 := hC BK141 0 (.int .i64 0);have hcz32_1 := hC BK141 1 (.int .i64 0);have hfz32_0 := blk_frozen BK141.out 0;have hfz32_1 := blk_frozen BK141.out 1;have hnb33 := NB137_138.out;have hnc33 := NB138_137.out;have hcz34_0 := hC BK137 0 (.slice A1_0 l1_0.length c1_0);have hfz34_0 := blk_frozen BK137.out 0)|((with_reducible refine gate_callee (f := 19) rfl ?_);refine goesL_ (some 14) rfl rfl Try.func19 (by kernel_rfl) rfl #[.agg #[.slice A1_0 l1_0.length c1_0]] rfl mA ?_;(with_reducible refine (textpatch_Validate.calls _ _ l1_0 t142 t143 _ ?side1 ?side2 A19.out).mono ?_);(case side1 => exact Kd.C_below HR1_0.out eB);(case side2 => exact HC1_0.out);rintro e w35 ⟨rfl, hb⟩;refine ⟨_, rfl, ?_⟩;replace BK136 := lJ BK136 hb;replace BK137 := lJ BK137 hb;replace BK138 := lJ BK138 hb;replace BK141 := lK gb141 27 #[.int .i64 t139, .int .i64 t140] hb;replace HB := sBe HB hb;(try clear hb))|((with_reducible refine gate_dst (N := 6) rfl ?_);refine bE 6 #[.int .i64 0, .int .i64 0] 27 ?_;intro gb144 hg w36 hbox hb;have BK144 := Aside0.mk (hbox);have GW144 := gBe HB hg;have GE144 := gBe HB hg;have NB136_144 := nL BK136 hg;have NB144_136 := nG BK136 hg;have NB137_144 := nL BK137 hg;have NB144_137 := nG BK137 hg;have NB138_144 := nL BK138 hg;have NB144_138 := nG BK138 hg;have NB141_144 := nL BK141 hg;have NB144_141 := nG BK141 hg;replace BK136 := lJ BK136 hb;replace BK137 := lJ BK137 hb;replace BK138 := lJ BK138 hb;replace BK141 := lJ BK141 hb;replace HB := sBe HB hb;clear hb hbox hg;have hnb37 := NB144_136.out;have hnc37 := NB136_144.out;have hnb38 := NB144_137.out;have hnc38 := NB137_144.out;have hnb39 := NB144_138.out;have hnc39 := NB138_144.out;have hnb40 := NB144_141.out;have hnc40 := NB141_144.out;have hcz41_0 := hC BK144 0 (.int .i64 0);have hcz41_1 := hC BK144 1 (.int .i64 0);have hfz41_0 := blk_frozen BK144.out 0;have hfz41_1 := blk_frozen BK144.out 1;have hcz42_0 := hC BK138 0 (.int .i64 0);have hcz42_1 := hC BK138 1 (.int .i64 0);have hfz42_0 := blk_frozen BK138.out 0;have hfz42_1 := blk_frozen BK138.out 1))
      refine bodyPost_ret (results_cell_row rfl _ _ gb138 27 #[.int .i64 t142, .int .i64 (-2)] (0, 0) _ rfl kK Try.underlying27 rfl (by kernel_rfl)) rfl ?_;exact ⟨rW, eB⟩
    · rw [if_neg c20] at H;have c20b0 : (!(t142 == 0) || (!(t143 == 0))) = false := (by simpa using c20);clear c20;simp only [Option.some.injEq, Prod.mk.injEq] at H;obtain ⟨rfl, rfl⟩ := H
      go_enter Try.func50, Try.ntmps50
      go_wp2_with (first|((with_reducible refine gate_dst (N := 2) rfl ?_);refine bE 2 #[.slice A0_0 l0_0.length c0_0] 24 ?_;intro gb136 hg w43 hbox hb;have BK136 := Aside0.mk (hbox);have GW136 := gBe HB hg;have GE136 := gBe HB hg;replace HB := sBe HB hb;clear hb hbox hg)|((with_reducible refine gate_dst (N := 3) rfl ?_);refine bE 3 #[.slice A1_0 l1_0.length c1_0] 24 ?_;intro gb137 hg w44 hbox hb;have BK137 := Aside0.mk (hbox);have GW137 := gBe HB hg;have GE137 := gBe HB hg;have NB136_137 := nL BK136 hg;have NB137_136 := nG BK136 hg;replace BK136 := lJ BK136 hb;replace HB := sBe HB hb;clear hb hbox hg)|((with_reducible refine gate_dst (N := 4) rfl ?_);refine bE 4 #[.int .i64 0, .int .i64 0] 27 ?_;intro gb138 hg w45 hbox hb;have BK138 := Aside0.mk (hbox);have GW138 := gBe HB hg;have GE138 := gBe HB hg;have NB136_138 := nL BK136 hg;have NB138_136 := nG BK136 hg;have NB137_138 := nL BK137 hg;have NB138_137 := nG BK137 hg;replace BK136 := lJ BK136 hb;replace BK137 := lJ BK137 hb;replace HB := sBe HB hb;clear hb hbox hg;have hnb46 := NB136_137.out;have hnc46 := NB137_136.out;have hnb47 := NB136_138.out;have hnc47 := NB138_136.out;have hcz48_0 := hC BK136 0 (.slice A0_0 l0_0.length c0_0);have hfz48_0 := blk_frozen BK136.out 0)|((with_reducible refine gate_callee (f := 19) rfl ?_);refine goesL_ (some 8) rfl rfl Try.func19 (by kernel_rfl) rfl #[.agg #[.slice A0_0 l0_0.length c0_0]] rfl mA ?_;(with_reducible refine (textpatch_Validate.calls _ _ l0_0 t139 t140 _ ?side1 ?side2 A3.out).mono ?_);(case side1 => exact cBe HR0_0);(case side2 => exact HC0_0.out);rintro e w49 ⟨rfl, hb⟩;refine ⟨_, rfl, ?_⟩;replace BK136 := lJ BK136 hb;replace BK137 := lJ BK137 hb;replace BK138 := lJ BK138 hb;replace HB := sBe HB hb;(try clear hb))|((with_reducible refine gate_dst (N := 5) rfl ?_);refine bE 5 #[.int .i64 0, .int .i64 0] 27 ?_;intro gb141 hg w50 hbox hb;have BK141 := Aside0.mk (hbox);have GW141 := gBe HB hg;have GE141 := gBe HB hg;have NB136_141 := nL BK136 hg;have NB141_136 := nG BK136 hg;have NB137_141 := nL BK137 hg;have NB141_137 := nG BK137 hg;have NB138_141 := nL BK138 hg;have NB141_138 := nG BK138 hg;replace BK136 := lJ BK136 hb;replace BK137 := lJ BK137 hb;replace BK138 := lJ BK138 hb;replace HB := sBe HB hb;clear hb hbox hg;have hnb51 := NB141_136.out;have hnc51 := NB136_141.out;have hnb52 := NB141_137.out;have hnc52 := NB137_141.out;have hnb53 := NB141_138.out;have hnc53 := NB138_141.out;have hcz54_0 := hC BK141 0 (.int .i64 0);have hcz54_1 := hC BK141 1 (.int .i64 0);have hfz54_0 := blk_frozen BK141.out 0;have hfz54_1 := blk_frozen BK141.out 1;have hnb55 := NB137_138.out;have hnc55 := NB138_137.out;have hcz56_0 := hC BK137 0 (.slice A1_0 l1_0.length c1_0);have hfz56_0 := blk_frozen BK137.out 0)|((with_reducible refine gate_callee (f := 19) rfl ?_);refine goesL_ (some 14) rfl rfl Try.func19 (by kernel_rfl) rfl #[.agg #[.slice A1_0 l1_0.length c1_0]] rfl mA ?_;(with_reducible refine (textpatch_Validate.calls _ _ l1_0 t142 t143 _ ?side1 ?side2 A19.out).mono ?_);(case side1 => exact Kd.C_below HR1_0.out eB);(case side2 => exact HC1_0.out);rintro e w57 ⟨rfl, hb⟩;refine ⟨_, rfl, ?_⟩;replace BK136 := lJ BK136 hb;replace BK137 := lJ BK137 hb;replace BK138 := lJ BK138 hb;replace BK141 := lK gb141 27 #[.int .i64 t139, .int .i64 t140] hb;replace HB := sBe HB hb;(try clear hb))|((with_reducible refine gate_dst (N := 6) rfl ?_);refine bE 6 #[.int .i64 0, .int .i64 0] 27 ?_;intro gb144 hg w58 hbox hb;have BK144 := Aside0.mk (hbox);have GW144 := gBe HB hg;have GE144 := gBe HB hg;have NB136_144 := nL BK136 hg;have NB144_136 := nG BK136 hg;have NB137_144 := nL BK137 hg;have NB144_137 := nG BK137 hg;have NB138_144 := nL BK138 hg;have NB144_138 := nG BK138 hg;have NB141_144 := nL BK141 hg;have NB144_141 := nG BK141 hg;replace BK136 := lJ BK136 hb;replace BK137 := lJ BK137 hb;replace BK138 := lJ BK138 hb;replace BK141 := lJ BK141 hb;replace HB := sBe HB hb;clear hb hbox hg;have hnb59 := NB144_136.out;have hnc59 := NB136_144.out;have hnb60 := NB144_137.out;have hnc60 := NB137_144.out;have hnb61 := NB144_138.out;have hnc61 := NB138_144.out;have hnb62 := NB144_141.out;have hnc62 := NB141_144.out;have hcz63_0 := hC BK144 0 (.int .i64 0);have hcz63_1 := hC BK144 1 (.int .i64 0);have hfz63_0 := blk_frozen BK144.out 0;have hfz63_1 := blk_frozen BK144.out 1;have hcz64_0 := hC BK138 0 (.int .i64 0);have hcz64_1 := hC BK138 1 (.int .i64 0);have hfz64_0 := blk_frozen BK138.out 0;have hfz64_1 := blk_frozen BK138.out 1))
      refine bodyPost_ret (results_cell_row rfl _ _ gb138 27 #[.int .i64 0, .int .i64 0] (0, 0) _ rfl kK Try.underlying27 rfl (by kernel_rfl)) rfl ?_;exact ⟨rW, eB⟩

/-! ### commute_apart: function 64 -/
def commute_apart.f (a0_0 : Int) (a0_1 : Int) (a1_0 : Int) (a1_1 : Int) : Option (Bool) := if a0_1 < a1_0 then (some true) else (some (decide (a1_1 < a0_0)))
set_option maxHeartbeats 8000000 in
set_option maxRecDepth 100000 in
theorem commute_apart.calls (a0_0 : Int) (a0_1 : Int) (a1_0 : Int) (a1_1 : Int) (r : Bool) (w : World) (h : commute_apart.f a0_0 a0_1 a1_0 a1_1 = some r) :
    Calls Try.prog 64 #[.agg #[.int .i64 a0_0, .int .i64 a0_1], .agg #[.int .i64 a1_0, .int .i64 a1_1]] w fun e w' => e = .returned (.bool r) ∧ Below w.heap.size w w' := by
  have hu78 := Try.underlying78;have HB := Aside0.mk (Below.refl w.heap.size w);have H : (if a0_1 < a1_0 then (some true) else (some (decide (a1_1 < a0_0)))) = some r := h;clear h
  by_cases c3 : a0_1 < a1_0
  · rw [if_pos c3] at H;have c3b0 : decide (a0_1 < a1_0) = true := decide_eq_true c3;clear c3;obtain rfl := Option.some.inj H
    go_enter Try.func64, Try.ntmps64
    go_wp2_with (first|((with_reducible refine gate_dst (N := 2) rfl ?_);refine bE 2 #[.int .i64 a0_0, .int .i64 a0_1] 78 ?_;intro gb145 hg w4 hbox hb;have BK145 := Aside0.mk (hbox);have GW145 := gBe HB hg;have GE145 := gBe HB hg;replace HB := sBe HB hb;clear hb hbox hg)|((with_reducible refine gate_dst (N := 3) rfl ?_);refine bE 3 #[.int .i64 a1_0, .int .i64 a1_1] 78 ?_;intro gb146 hg w5 hbox hb;have BK146 := Aside0.mk (hbox);have GW146 := gBe HB hg;have GE146 := gBe HB hg;have NB145_146 := nL BK145 hg;have NB146_145 := nG BK145 hg;replace BK145 := lJ BK145 hb;replace HB := sBe HB hb;clear hb hbox hg;have hnb6 := NB145_146.out;have hnc6 := NB146_145.out;have hcz7_0 := hC BK145 0 (.int .i64 a0_0);have hcz7_1 := hC BK145 1 (.int .i64 a0_1);have hfz7_0 := blk_frozen BK145.out 0;have hfz7_1 := blk_frozen BK145.out 1;have hcz8_0 := hC BK146 0 (.int .i64 a1_0);have hcz8_1 := hC BK146 1 (.int .i64 a1_1);have hfz8_0 := blk_frozen BK146.out 0;have hfz8_1 := blk_frozen BK146.out 1))
    go_ret
    exact ⟨rW, eB⟩
  · rw [if_neg c3] at H;have c3b0 : decide (a0_1 < a1_0) = false := decide_eq_false c3;clear c3;obtain rfl := Option.some.inj H
    go_enter Try.func64, Try.ntmps64
    go_wp2_with (first|((with_reducible refine gate_dst (N := 2) rfl ?_);refine bE 2 #[.int .i64 a0_0, .int .i64 a0_1] 78 ?_;intro gb145 hg w9 hbox hb;have BK145 := Aside0.mk (hbox);have GW145 := gBe HB hg;have GE145 := gBe HB hg;replace HB := sBe HB hb;clear hb hbox hg)|((with_reducible refine gate_dst (N := 3) rfl ?_);refine bE 3 #[.int .i64 a1_0, .int .i64 a1_1] 78 ?_;intro gb146 hg w10 hbox hb;have BK146 := Aside0.mk (hbox);have GW146 := gBe HB hg;have GE146 := gBe HB hg;have NB145_146 := nL BK145 hg;have NB146_145 := nG BK145 hg;replace BK145 := lJ BK145 hb;replace HB := sBe HB hb;clear hb hbox hg;have hnb11 := NB145_146.out;have hnc11 := NB146_145.out;have hcz12_0 := hC BK145 0 (.int .i64 a0_0);have hcz12_1 := hC BK145 1 (.int .i64 a0_1);have hfz12_0 := blk_frozen BK145.out 0;have hfz12_1 := blk_frozen BK145.out 1;have hcz13_0 := hC BK146 0 (.int .i64 a1_0);have hcz13_1 := hC BK146 1 (.int .i64 a1_1);have hfz13_0 := blk_frozen BK146.out 0;have hfz13_1 := blk_frozen BK146.out 1))
    go_ret
    exact ⟨rW, eB⟩

/-! ### commute_independent: function 51 -/
mutual
def commute_independent.l0 : Nat → List (S78) → List (S78) → Int → Int → Option (Bool)
  | 0, _, _, _, _ => none
  | k + 1, x1, x9, x10, x11 => if x11 < x10 then (if 0 ≤ x11 then (if x11 < (x9.length : Int) then (commute_independent.l1 k x1 x9 x10 x11 x1 (x1.length : Int) 0 ((rd_T78 x9 x11).f0) ((rd_T78 x9 x11).f1)) else (none)) else (none)) else (some true)
def commute_independent.l1 : Nat → List (S78) → List (S78) → Int → Int → List (S78) → Int → Int → Int → Int → Option (Bool)
  | 0, _, _, _, _, _, _, _, _, _ => none
  | k + 1, x1, x9, x10, x11, x15, x16, x17, x149000, x149001 => if x17 < x16 then (if 0 ≤ x17 then (if x17 < (x15.length : Int) then ((commute_apart.f x149000 x149001 ((rd_T78 x15 x17).f0) ((rd_T78 x15 x17).f1)).bind fun t151 => (if t151 = true then (commute_independent.l1 k x1 x9 x10 x11 x15 x16 (wrap64 (x17 + 1)) x149000 x149001) else (some false))) else (none)) else (none)) else (commute_independent.l0 k x1 x9 x10 (wrap64 (x11 + 1)))
end
def commute_independent.f (k : Nat) (l0 : List (S78)) (l1 : List (S78)) : Option (Bool) := commute_independent.l0 k l1 l0 (l0.length : Int) 0
theorem commute_independent.mono_l : ∀ k, (∀ y0 y1 y2 y3, LeO (commute_independent.l0 k y0 y1 y2 y3) (commute_independent.l0 (k + 1) y0 y1 y2 y3)) ∧ (∀ y0 y1 y2 y3 y4 y5 y6 y7 y8, LeO (commute_independent.l1 k y0 y1 y2 y3 y4 y5 y6 y7 y8) (commute_independent.l1 (k + 1) y0 y1 y2 y3 y4 y5 y6 y7 y8))
  | 0 => ⟨fun _ _ _ _ r h => by simp [commute_independent.l0] at h, fun _ _ _ _ _ _ _ _ _ r h => by simp [commute_independent.l1] at h⟩
  | k + 1 => by
    obtain ⟨ih0, ih1⟩ := commute_independent.mono_l k;refine ⟨?_, ?_⟩
    · intro y0 y1 y2 y3
      unfold commute_independent.l0
      repeat' first
      | (with_reducible exact ih0 _ _ _ _)
      | (with_reducible exact ih1 _ _ _ _ _ _ _ _ _)
      | (with_reducible exact LeO.refl _)
      | (with_reducible exact LeO.none _)
      | (with_reducible refine LeO.ite ?_ ?_)
      | (with_reducible refine LeO.bind ?_ (fun _ => ?_))
      | exact ih0 _ _ _ _
      | exact ih1 _ _ _ _ _ _ _ _ _
      | exact LeO.none _
      | refine LeO.ite ?_ ?_
      | refine LeO.bind ?_ (fun _ => ?_)
    · intro y0 y1 y2 y3 y4 y5 y6 y7 y8
      unfold commute_independent.l1
      repeat' first
      | (with_reducible exact ih0 _ _ _ _)
      | (with_reducible exact ih1 _ _ _ _ _ _ _ _ _)
      | (with_reducible exact LeO.refl _)
      | (with_reducible exact LeO.none _)
      | (with_reducible refine LeO.ite ?_ ?_)
      | (with_reducible refine LeO.bind ?_ (fun _ => ?_))
      | exact ih0 _ _ _ _
      | exact ih1 _ _ _ _ _ _ _ _ _
      | exact LeO.none _
      | refine LeO.ite ?_ ?_
      | refine LeO.bind ?_ (fun _ => ?_)
theorem commute_independent.mono : ∀ a0 a1 k, LeO (commute_independent.f k a0 a1) (commute_independent.f (k + 1) a0 a1) := by
  intro a0 a1 k
  obtain ⟨ih0, ih1⟩ := commute_independent.mono_l k
  unfold commute_independent.f
  repeat' first
      | (with_reducible exact ih0 _ _ _ _)
      | (with_reducible exact ih1 _ _ _ _ _ _ _ _ _)
      | (with_reducible exact LeO.refl _)
      | (with_reducible exact LeO.none _)
      | (with_reducible refine LeO.ite ?_ ?_)
      | (with_reducible refine LeO.bind ?_ (fun _ => ?_))
      | exact ih0 _ _ _ _
      | exact ih1 _ _ _ _ _ _ _ _ _
      | exact LeO.none _
      | refine LeO.ite ?_ ?_
      | refine LeO.bind ?_ (fun _ => ?_)
set_option maxHeartbeats 8000000 in
set_option maxRecDepth 100000 in
theorem commute_independent.calls (k : Nat) (A0 : Option Addr) (c0 : Nat) (l0 : List (S78)) (A1 : Option Addr) (c1 : Nat) (l1 : List (S78)) (r : Bool) (w : World) (hr0 : Kd.C k78 w A0 l0.length l0) (hc0 : l0.length ≤ c0) (hr1 : Kd.C k78 w A1 l1.length l1) (hc1 : l1.length ≤ c1) (h : commute_independent.f k l0 l1 = some r) :
    Calls Try.prog 51 #[.slice A0 l0.length c0, .slice A1 l1.length c1] w fun e w' => e = .returned (.bool r) ∧ Below w.heap.size w w' := by
  have hu78 := Try.underlying78;have HR0 := Aside0.mk hr0;have HC0 := Aside0.mk hc0;clear hr0 hc0;have HR1 := Aside0.mk hr1;have HC1 := Aside0.mk hc1;clear hr1 hc1;have HB := Aside0.mk (Below.refl w.heap.size w);have H : (commute_independent.l0 k l1 l0 (l0.length : Int) 0) = some r := h;clear h;have H' := Aside0.mk H;clear H
  go_enter Try.func51, Try.ntmps51
  go_wp2
  go_loopg [11] k (fun kq v11 w' => ∃ (x11_1 : Int), v11 = .int .i64 x11_1 ∧ Aside0 (commute_independent.l0 kq l1 l0 (l0.length : Int) x11_1 = some r) ∧ Aside0 (kq ≤ k) ∧ Aside0 (Below w.heap.size w w'))
  case atStart => exact ⟨(0), (by first|rfl|(simp only [i64_w, i32_w];done)|(simp only [i64_w, i32_w];rfl)|(simp;done)|(simp [*];done)), H', ⟨Nat.le_refl _⟩, ⟨eB⟩⟩
  case round =>
    clear H'
    try clear c1
    try clear p2
    obtain ⟨x11_1, rfl, HA, HK1, HB⟩ := hrel
    cases gk with
    | zero => exact absurd HA.out (by simp [commute_independent.l0])
    | succ k1 =>
      have H := HA.out;clear HA;simp only [commute_independent.l0] at H
      by_cases c3 : x11_1 < (l0.length : Int)
      · rw [if_pos c3] at H;have c3b0 : decide (x11_1 < (l0.length : Int)) = true := decide_eq_true c3;clear c3
        by_cases c4 : 0 ≤ x11_1
        · rw [if_pos c4] at H;have c4b0 : decide (0 ≤ x11_1) = true := decide_eq_true c4;clear c4
          by_cases c5 : x11_1 < (l0.length : Int)
          · rw [if_pos c5] at H;have c5b0 : decide (x11_1 < (l0.length : Int)) = true := decide_eq_true c5;clear c5;have H' := Aside0.mk H;clear H;have p147 : 0 ≤ (x11_1 : Int) := dA;have q147 : x11_1 < (l0.length : Int) := dA;obtain ⟨ad147, e147, hx147_0, hx147_1⟩ := at_T78 HR0.out x11_1 p147 q147
            cases e147
            replace hx147_0 := (hX HB hx147_0:);replace hx147_1 := (hX HB hx147_1:);replace p147 := eq_true p147;replace q147 := eq_true q147
            go_wp2_with (first|((with_reducible refine gate_dst (N := 6) rfl ?_);refine bE 6 #[.int .i64 0, .int .i64 0] 78 ?_;intro gb148 hg w6 hbox hb;have BK148 := Aside0.mk (hbox);have GW148 := gBe HB hg;have GE148 := gBe HB hg;replace HB := sBe HB hb;clear hb hbox hg;have hcz7_0 := hC BK148 0 (.int .i64 0);have hcz7_1 := hC BK148 1 (.int .i64 0);have hfz7_0 := blk_frozen BK148.out 0;have hfz7_1 := blk_frozen BK148.out 1))
            go_loopg [17] k1 (fun kq v17 w' => ∃ (x17_2 : Int), v17 = .int .i64 x17_2 ∧ Aside0 (commute_independent.l1 kq l1 l0 (l0.length : Int) x11_1 l1 (l1.length : Int) x17_2 ((rd_T78 l0 x11_1).f0) ((rd_T78 l0 x11_1).f1) = some r) ∧ Aside0 (kq ≤ k1) ∧ Bk w' gb148 78 #[.int .i64 ((rd_T78 l0 x11_1).f0), .int .i64 ((rd_T78 l0 x11_1).f1)] ∧ Aside0 (Below w.heap.size w w'))
            case atStart => exact ⟨(0), (by first|rfl|(simp only [i64_w, i32_w];done)|(simp only [i64_w, i32_w];rfl)|(simp;done)|(simp [*];done)), H', ⟨Nat.le_refl _⟩, ⟨kK⟩, ⟨eB⟩⟩
            case round =>
              clear H'
              try clear c1
              try clear p1
              try clear q1
              try clear hx1
              try clear p2
              try clear c3
              try clear c3b0
              try clear c4
              try clear c4b0
              try clear c5
              try clear c5b0
              try clear hcz7_0
              try clear hcz7_1
              try clear hfz7_0
              try clear hfz7_1
              try clear hx147_0
              try clear hx147_1
              try clear p147
              try clear p2
              try clear q147
              obtain ⟨x17_2, rfl, HA, HK2, BK148, HB⟩ := hrel
              cases gk with
              | zero => exact absurd HA.out (by simp [commute_independent.l1])
              | succ k2 =>
                have H := HA.out;clear HA;simp only [commute_independent.l1] at H
                by_cases c8 : x17_2 < (l1.length : Int)
                · rw [if_pos c8] at H;have c8b0 : decide (x17_2 < (l1.length : Int)) = true := decide_eq_true c8;clear c8
                  by_cases c9 : 0 ≤ x17_2
                  · rw [if_pos c9] at H;have c9b0 : decide (0 ≤ x17_2) = true := decide_eq_true c9;clear c9
                    by_cases c10 : x17_2 < (l1.length : Int)
                    · rw [if_pos c10] at H;have c10b0 : decide (x17_2 < (l1.length : Int)) = true := decide_eq_true c10;clear c10;replace H := Option.bind_eq_some_iff.mp H;obtain ⟨t151, A110, H⟩ := H;replace H : (if t151 = true then (commute_independent.l1 k2 l1 l0 (l0.length : Int) x11_1 l1 (l1.length : Int) (wrap64 (x17_2 + 1)) ((rd_T78 l0 x11_1).f0) ((rd_T78 l0 x11_1).f1)) else (some false)) = some r := H;have A11 := Aside0.mk A110;clear A110
                      by_cases c12 : t151 = true
                      · subst c12;have H1 : (commute_independent.l1 k2 l1 l0 (l0.length : Int) x11_1 l1 (l1.length : Int) (wrap64 (x17_2 + 1)) ((rd_T78 l0 x11_1).f0) ((rd_T78 l0 x11_1).f1)) = some r := (by rw [if_pos rfl] at H;exact H);clear H;have H := H1;clear H1;have H' := Aside0.mk H;clear H;have p149 : 0 ≤ (x17_2 : Int) := dA;have q149 : x17_2 < (l1.length : Int) := dA;obtain ⟨ad149, e149, hx149_0, hx149_1⟩ := at_T78 HR1.out x17_2 p149 q149
                        cases e149
                        replace hx149_0 := (hX HB hx149_0:);replace hx149_1 := (hX HB hx149_1:);replace p149 := eq_true p149;replace q149 := eq_true q149
                        go_wp2_with (first|((with_reducible refine gate_dst (N := 8) rfl ?_);refine bE 8 #[.int .i64 0, .int .i64 0] 78 ?_;intro gb150 hg w13 hbox hb;have BK150 := Aside0.mk (hbox);have GW150 := gBe HB hg;have GE150 := gBe HB hg;have NB148_150 := nL BK148 hg;have NB150_148 := nG BK148 hg;replace BK148 := lJ BK148 hb;replace HB := sBe HB hb;clear hb hbox hg;have hnb14 := NB150_148.out;have hnc14 := NB148_150.out;have hcz15_0 := hC BK150 0 (.int .i64 0);have hcz15_1 := hC BK150 1 (.int .i64 0);have hfz15_0 := blk_frozen BK150.out 0;have hfz15_1 := blk_frozen BK150.out 1;have hcz16_0 := hC BK148 0 (.int .i64 ((rd_T78 l0 x11_1).f0));have hcz16_1 := hC BK148 1 (.int .i64 ((rd_T78 l0 x11_1).f1));have hfz16_0 := blk_frozen BK148.out 0;have hfz16_1 := blk_frozen BK148.out 1)|((with_reducible refine gate_callee (f := 64) rfl ?_);refine goesL_ (some 23) rfl rfl Try.func64 (by kernel_rfl) rfl #[.agg #[.int .i64 ((rd_T78 l0 x11_1).f0), .int .i64 ((rd_T78 l0 x11_1).f1)], .agg #[.int .i64 ((rd_T78 l1 x17_2).f0), .int .i64 ((rd_T78 l1 x17_2).f1)]] rfl mA ?_;(with_reducible refine (commute_apart.calls ((rd_T78 l0 x11_1).f0) ((rd_T78 l0 x11_1).f1) ((rd_T78 l1 x17_2).f0) ((rd_T78 l1 x17_2).f1) true _ A11.out).mono ?_);rintro e w17 ⟨rfl, hb⟩;refine ⟨_, rfl, ?_⟩;replace BK148 := lJ BK148 hb;replace BK150 := lK gb150 78 #[.int .i64 ((rd_T78 l1 x17_2).f0), .int .i64 ((rd_T78 l1 x17_2).f1)] hb;replace HB := sBe HB hb;(try clear hb)))
                        go_roundg k2
                        case measure => have := HK1.out;have := HK2.out;omega
                        case rel => exact ⟨(wrap64 (x17_2 + 1)), (by first|rfl|(simp only [i64_w, i32_w];done)|(simp only [i64_w, i32_w];rfl)|(simp;done)|(simp [*];done)), H', ⟨by have := HK1.out;have := HK2.out;omega⟩, ⟨kK⟩, ⟨eB⟩⟩
                      · replace c12 := Bool.eq_false_iff.mpr c12;subst c12;have H1 : (some false) = some r := (by rw [if_neg (show ¬ (false = true) by decide)] at H;exact H);clear H;have H := H1;clear H1;obtain rfl := Option.some.inj H;have p149 : 0 ≤ (x17_2 : Int) := dA;have q149 : x17_2 < (l1.length : Int) := dA;obtain ⟨ad149, e149, hx149_0, hx149_1⟩ := at_T78 HR1.out x17_2 p149 q149
                        cases e149
                        replace hx149_0 := (hX HB hx149_0:);replace hx149_1 := (hX HB hx149_1:);replace p149 := eq_true p149;replace q149 := eq_true q149
                        go_wp2_with (first|((with_reducible refine gate_dst (N := 8) rfl ?_);refine bE 8 #[.int .i64 0, .int .i64 0] 78 ?_;intro gb150 hg w18 hbox hb;have BK150 := Aside0.mk (hbox);have GW150 := gBe HB hg;have GE150 := gBe HB hg;have NB148_150 := nL BK148 hg;have NB150_148 := nG BK148 hg;replace BK148 := lJ BK148 hb;replace HB := sBe HB hb;clear hb hbox hg;have hnb19 := NB150_148.out;have hnc19 := NB148_150.out;have hcz20_0 := hC BK150 0 (.int .i64 0);have hcz20_1 := hC BK150 1 (.int .i64 0);have hfz20_0 := blk_frozen BK150.out 0;have hfz20_1 := blk_frozen BK150.out 1;have hcz21_0 := hC BK148 0 (.int .i64 ((rd_T78 l0 x11_1).f0));have hcz21_1 := hC BK148 1 (.int .i64 ((rd_T78 l0 x11_1).f1));have hfz21_0 := blk_frozen BK148.out 0;have hfz21_1 := blk_frozen BK148.out 1)|((with_reducible refine gate_callee (f := 64) rfl ?_);refine goesL_ (some 23) rfl rfl Try.func64 (by kernel_rfl) rfl #[.agg #[.int .i64 ((rd_T78 l0 x11_1).f0), .int .i64 ((rd_T78 l0 x11_1).f1)], .agg #[.int .i64 ((rd_T78 l1 x17_2).f0), .int .i64 ((rd_T78 l1 x17_2).f1)]] rfl mA ?_;(with_reducible refine (commute_apart.calls ((rd_T78 l0 x11_1).f0) ((rd_T78 l0 x11_1).f1) ((rd_T78 l1 x17_2).f0) ((rd_T78 l1 x17_2).f1) false _ A11.out).mono ?_);rintro e w22 ⟨rfl, hb⟩;refine ⟨_, rfl, ?_⟩;replace BK148 := lJ BK148 hb;replace BK150 := lK gb150 78 #[.int .i64 ((rd_T78 l1 x17_2).f0), .int .i64 ((rd_T78 l1 x17_2).f1)] hb;replace HB := sBe HB hb;(try clear hb)))
                        go_ret
                        exact ⟨rW, eB⟩
                    · rw [if_neg c10] at H;exact absurd H (by simp)
                  · rw [if_neg c9] at H;exact absurd H (by simp)
                · rw [if_neg c8] at H;have c8b0 : decide (x17_2 < (l1.length : Int)) = false := decide_eq_false c8;clear c8;have H' := Aside0.mk H;clear H
                  go_wp2
                  go_roundg k2
                  case measure => have := HK1.out;have := HK2.out;omega
                  case rel => exact ⟨(wrap64 (x11_1 + 1)), (by first|rfl|(simp only [i64_w, i32_w];done)|(simp only [i64_w, i32_w];rfl)|(simp;done)|(simp [*];done)), H', ⟨by have := HK1.out;have := HK2.out;omega⟩, ⟨eB⟩⟩
          · rw [if_neg c5] at H;exact absurd H (by simp)
        · rw [if_neg c4] at H;exact absurd H (by simp)
      · rw [if_neg c3] at H;have c3b0 : decide (x11_1 < (l0.length : Int)) = false := decide_eq_false c3;clear c3;obtain rfl := Option.some.inj H
        go_wp2
        go_ret
        exact ⟨rW, eB⟩

/-! ### commute_news: function 52 -/
def commute_news.l0 : Nat → List (S78) → Int → List (S47) → Int → Int → Option ((List (S78)))
  | 0, _, _, _, _, _ => none
  | k + 1, x3, x4, x8, x9, x10 => if x10 < x9 then (if 0 ≤ x10 then (if x10 < (x8.length : Int) then (if x3.length < 8796093022208 then (commute_news.l0 k (x3 ++ [(⟨wrap64 (((rd_T47 x8 x10).f0) + x4), wrap64 ((wrap64 (((rd_T47 x8 x10).f0) + x4)) + (((rd_T47 x8 x10).f2).length : Int))⟩ : S78)]) (wrap64 (x4 + (wrap64 ((((rd_T47 x8 x10).f2).length : Int) - (((rd_T47 x8 x10).f1).length : Int))))) x8 x9 (wrap64 (x10 + 1))) else (none)) else (none)) else (none)) else (some x3)
def commute_news.f (k : Nat) (l0_0 : List (S47)) : Option ((List (S78))) := commute_news.l0 k ([] : List (S78)) 0 l0_0 (l0_0.length : Int) 0
theorem commute_news.mono_l : ∀ k, (∀ y0 y1 y2 y3 y4, LeO (commute_news.l0 k y0 y1 y2 y3 y4) (commute_news.l0 (k + 1) y0 y1 y2 y3 y4))
  | 0 => fun _ _ _ _ _ r h => by simp [commute_news.l0] at h
  | k + 1 => by
    have ih0 := commute_news.mono_l k
    · intro y0 y1 y2 y3 y4
      unfold commute_news.l0
      repeat' first
      | (with_reducible exact ih0 _ _ _ _ _)
      | (with_reducible exact LeO.refl _)
      | (with_reducible exact LeO.none _)
      | (with_reducible refine LeO.ite ?_ ?_)
      | (with_reducible refine LeO.bind ?_ (fun _ => ?_))
      | exact ih0 _ _ _ _ _
      | exact LeO.none _
      | refine LeO.ite ?_ ?_
      | refine LeO.bind ?_ (fun _ => ?_)
theorem commute_news.mono : ∀ a0 k, LeO (commute_news.f k a0) (commute_news.f (k + 1) a0) := by
  intro a0 k
  have ih0 := commute_news.mono_l k
  unfold commute_news.f
  repeat' first
      | (with_reducible exact ih0 _ _ _ _ _)
      | (with_reducible exact LeO.refl _)
      | (with_reducible exact LeO.none _)
      | (with_reducible refine LeO.ite ?_ ?_)
      | (with_reducible refine LeO.bind ?_ (fun _ => ?_))
      | exact ih0 _ _ _ _ _
      | exact LeO.none _
      | refine LeO.ite ?_ ?_
      | refine LeO.bind ?_ (fun _ => ?_)
set_option maxHeartbeats 8000000 in
set_option maxRecDepth 100000 in
theorem commute_news.calls (k : Nat) (A0_0 : Option Addr) (c0_0 : Nat) (l0_0 : List (S47)) (r : List (S78)) (w : World) (hr0_0 : Kd.C k47 w A0_0 l0_0.length l0_0) (hc0_0 : l0_0.length ≤ c0_0) (h : commute_news.f k l0_0 = some r) :
    Calls Try.prog 52 #[.agg #[.slice A0_0 l0_0.length c0_0]] w fun e w' => ∃ v0_ : Value, e = .returned (v0_) ∧ Kd.R k78 78 w' w.heap.size (fun _ => True) v0_ r ∧ Below w.heap.size w w' := by
  have hu24 := Try.underlying24;have hu47 := Try.underlying47;have hu78 := Try.underlying78;have HR0_0 := Aside0.mk hr0_0;have HC0_0 := Aside0.mk hc0_0;clear hr0_0 hc0_0;have HB := Aside0.mk (Below.refl w.heap.size w);have H : (commute_news.l0 k ([] : List (S78)) 0 l0_0 (l0_0.length : Int) 0) = some r := h;clear h;have H' := Aside0.mk H;clear H
  go_enter Try.func52, Try.ntmps52
  go_wp2_with (first|((with_reducible refine gate_dst (N := 1) rfl ?_);refine bE 1 #[.slice A0_0 l0_0.length c0_0] 24 ?_;intro gb152 hg w2 hbox hb;have BK152 := Aside0.mk (hbox);have GW152 := gBe HB hg;have GE152 := gBe HB hg;replace HB := sBe HB hb;clear hb hbox hg;have hcz3_0 := hC BK152 0 (.slice A0_0 l0_0.length c0_0);have hfz3_0 := blk_frozen BK152.out 0))
  go_loopg [3, 4, 10] k (fun kq v3 v4 v10 w' => ∃ (x3_1 : List (S78)) (x4_1 : Int) (x10_1 : Int), v4 = .int .i64 x4_1 ∧ v10 = .int .i64 x10_1 ∧ Aside0 (commute_news.l0 kq x3_1 x4_1 l0_0 (l0_0.length : Int) x10_1 = some r) ∧ Aside0 (kq ≤ k) ∧ Aside0 (Kd.R k78 78 w' w.heap.size (fun _ => True) v3 x3_1) ∧ Bk w' gb152 24 #[(.slice A0_0 l0_0.length c0_0)] ∧ Aside0 (Below w.heap.size w w'))
  case atStart => exact ⟨(([] : List (S78))), (0), (0), (by first|rfl|(simp only [i64_w, i32_w];done)|(simp only [i64_w, i32_w];rfl)|(simp;done)|(simp [*];done)), (by first|rfl|(simp only [i64_w, i32_w];done)|(simp only [i64_w, i32_w];rfl)|(simp;done)|(simp [*];done)), H', ⟨Nat.le_refl _⟩, ⟨by first|exact Kd.R_nil _ _ _ _ _|exact Kd.N_nil _ _ _ _ _|exact Kd.V_nil _ _ _ _ _|exact Kd.Q_nil _ _ _ _ _|exact Kd.S_nil _ _ _ _ _⟩, ⟨kK⟩, ⟨eB⟩⟩
  case round =>
    clear H'
    try clear p2
    try clear hcz3_0
    try clear hfz3_0
    obtain ⟨x3_1, x4_1, x10_1, rfl, rfl, HA, HK1, HO_3, BK152, HB⟩ := hrel
    cases gk with
    | zero => exact absurd HA.out (by simp [commute_news.l0])
    | succ k1 =>
      have H := HA.out;clear HA;simp only [commute_news.l0] at H
      by_cases c4 : x10_1 < (l0_0.length : Int)
      · rw [if_pos c4] at H;have c4b0 : decide (x10_1 < (l0_0.length : Int)) = true := decide_eq_true c4;clear c4
        by_cases c5 : 0 ≤ x10_1
        · rw [if_pos c5] at H;have c5b0 : decide (0 ≤ x10_1) = true := decide_eq_true c5;clear c5
          by_cases c6 : x10_1 < (l0_0.length : Int)
          · rw [if_pos c6] at H;have c6b0 : decide (x10_1 < (l0_0.length : Int)) = true := decide_eq_true c6;clear c6
            by_cases c7 : x3_1.length < 8796093022208
            · rw [if_pos c7] at H;have LMc7 := Aside0.mk c7;clear c7;obtain ⟨y155, hy155⟩ : ∃ y_ : List (S78), y_ = (x3_1 ++ [(⟨wrap64 (((rd_T47 l0_0 x10_1).f0) + x4_1), wrap64 ((wrap64 (((rd_T47 l0_0 x10_1).f0) + x4_1)) + (((rd_T47 l0_0 x10_1).f2).length : Int))⟩ : S78)]) := ⟨_, rfl⟩;replace H : (commute_news.l0 k1 y155 (wrap64 (x4_1 + (wrap64 ((((rd_T47 l0_0 x10_1).f2).length : Int) - (((rd_T47 l0_0 x10_1).f1).length : Int))))) l0_0 (l0_0.length : Int) (wrap64 (x10_1 + 1))) = some r := (by first|(rw [hy155];with_reducible exact H)|(have H2_ := (Option.bind_some _ _).symm.trans H;rw [hy155];with_reducible exact H2_)|(have H2_ := (Option.bind_some _ _).symm.trans H;with_reducible exact H2_)|with_reducible exact H|(rw [hy155];exact H)|exact H);have Ny155 := Aside0.mk hy155;clear hy155;have H' := Aside0.mk H;clear H;have p153 : 0 ≤ (x10_1 : Int) := dA;have q153 : x10_1 < (l0_0.length : Int) := dA;obtain ⟨ad153, A153_1, c153_1, A153_2, c153_2, e153, hx153_0, hx153_1, hx153_2, hl153_1, hi153_1, hl153_2, hi153_2⟩ := at_T47 HR0_0.out x10_1 p153 q153
              cases e153
              replace hx153_0 := (hX HB hx153_0:);replace hx153_1 := (hX HB hx153_1:);replace hx153_2 := (hX HB hx153_2:);have HR153_1 := Aside0.mk hi153_1;have HC153_1 := Aside0.mk hl153_1;clear hi153_1 hl153_1;have HR153_2 := Aside0.mk hi153_2;have HC153_2 := Aside0.mk hl153_2;clear hi153_2 hl153_2;replace p153 := eq_true p153;replace q153 := eq_true q153
              go_wp2_with (first|((with_reducible refine gate_dst (N := 6) rfl ?_);refine bE 6 #[.int .i64 0, .slice none 0 0, .slice none 0 0] 47 ?_;intro gb154 hg w8 hbox hb;have BK154 := Aside0.mk (hbox);have GW154 := gBe HB hg;have GE154 := gBe HB hg;have NB152_154 := nL BK152 hg;have NB154_152 := nG BK152 hg;replace HO_3 := rL HO_3 hb;replace BK152 := lJ BK152 hb;replace HB := sBe HB hb;clear hb hbox hg;have hnb9 := NB154_152.out;have hnc9 := NB152_154.out;have hcz10_0 := hC BK154 0 (.int .i64 0);have hcz10_1 := hC BK154 1 (.slice none 0 0);have hcz10_2 := hC BK154 2 (.slice none 0 0);have hfz10_0 := blk_frozen BK154.out 0;have hfz10_1 := blk_frozen BK154.out 1;have hfz10_2 := blk_frozen BK154.out 2)|((with_reducible refine gate_builtin (b := .append) (xs := #[.tmp 14, .tmp 28]) rfl ?_);at_builtin;refine Kd.R_append k78 (w0 := w) w.heap.size rfl (.tmp 14) (.tmp 28) 63 78 (.agg #[(.int .i64 0), (.int .i64 0)]) 16 rfl Try.underlying63 info78 rfl (by decide) (by omega) u3 x3_1 (⟨wrap64 (((rd_T47 l0_0 x10_1).f0) + x4_1), wrap64 ((wrap64 (((rd_T47 l0_0 x10_1).f0) + x4_1)) + (((rd_T47 l0_0 x10_1).f2).length : Int))⟩ : S78) [.int .i64 (wrap64 (((rd_T47 l0_0 x10_1).f0) + x4_1)), .int .i64 (wrap64 ((wrap64 (((rd_T47 l0_0 x10_1).f0) + x4_1)) + (((rd_T47 l0_0 x10_1).f2).length : Int)))] (fun _ => True) (fun _ => False) rfl (by first|(go_simp;done)|(go_simp;rfl)) ?aP (fun _ hk => hk.elim) ?aF ?aO ?aB ?aS ?aL ?_;(case aP => exact k78_mkM _ _ _ (⟨wrap64 (((rd_T47 l0_0 x10_1).f0) + x4_1), wrap64 ((wrap64 (((rd_T47 l0_0 x10_1).f0) + x4_1)) + (((rd_T47 l0_0 x10_1).f2).length : Int))⟩ : S78));(case aB => exact eB);(case aF => exact (fun _ _ => trivial));(case aO => exact (by (with_reducible repeat first|apply rA|apply rN|apply rD);exact Kd.R_mono (Kd.R_far (p := ⟨gb154, 2, none⟩) (Kd.R_far (p := ⟨gb154, 1, none⟩) (Kd.R_far (p := ⟨gb154, 0, none⟩) (Kd.R_types HO_3.out BK154.out (by decide)) (fun _ hk => hk.2) (.int .i64 ((rd_T47 l0_0 x10_1).f0))) (fun _ hk => hk.2) (.slice A153_1 ((rd_T47 l0_0 x10_1).f1).length c153_1)) (fun _ hk => hk.2) (.slice A153_2 ((rd_T47 l0_0 x10_1).f2).length c153_2)) (fun _ hk => trivial)));(case aS => exact (below_size eB));(case aL => have := LMc7.out;omega);intro v156 w11 ho hb hg hat;rw [← Ny155.out] at ho;have n0_ := Aside0.mk (blk_grown (g := gb152) (o := .cells #[.slice (some ad153) l0_0.length c0_0] 24 (0, 0)) kK hg (Kd.R_ne HO_3.out BK152.out (by decide)));have n1_ := Aside0.mk (blk_grown (g := gb154) (o := .cells #[.int .i64 ((rd_T47 l0_0 x10_1).f0), .slice A153_1 ((rd_T47 l0_0 x10_1).f1).length c153_1, .slice A153_2 ((rd_T47 l0_0 x10_1).f2).length c153_2] 47 (0, 0)) kK hg (Kd.R_ne HO_3.out BK154.out (by decide)));have n2_ := Aside0.mk (hb);have n3_ := Aside0.mk (ho);clear BK152;clear BK154;clear HB;clear HO_3;have BK152 := n0_;have BK154 := n1_;have HB := n2_;have HO157 := n3_;clear n0_ n1_ n2_ n3_;clear ho hb hg hat;have hcz12_0 := hC BK154 0 (.int .i64 ((rd_T47 l0_0 x10_1).f0));have hcz12_1 := hC BK154 1 (.slice A153_1 ((rd_T47 l0_0 x10_1).f1).length c153_1);have hcz12_2 := hC BK154 2 (.slice A153_2 ((rd_T47 l0_0 x10_1).f2).length c153_2);have hfz12_0 := blk_frozen BK154.out 0;have hfz12_1 := blk_frozen BK154.out 1;have hfz12_2 := blk_frozen BK154.out 2))
              go_roundg k1
              case measure => have := HK1.out;omega
              case rel => exact ⟨(y155), (wrap64 (x4_1 + (wrap64 ((((rd_T47 l0_0 x10_1).f2).length : Int) - (((rd_T47 l0_0 x10_1).f1).length : Int))))), (wrap64 (x10_1 + 1)), (by first|rfl|(simp only [i64_w, i32_w];done)|(simp only [i64_w, i32_w];rfl)|(simp;done)|(simp [*];done)), (by first|rfl|(simp only [i64_w, i32_w];done)|(simp only [i64_w, i32_w];rfl)|(simp;done)|(simp [*];done)), H', ⟨by have := HK1.out;omega⟩, ⟨by (with_reducible repeat first|apply rA|apply rN|apply rD);exact HO157.out⟩, ⟨kK⟩, ⟨eB⟩⟩
            · rw [if_neg c7] at H;exact absurd H (by simp)
          · rw [if_neg c6] at H;exact absurd H (by simp)
        · rw [if_neg c5] at H;exact absurd H (by simp)
      · rw [if_neg c4] at H;have c4b0 : decide (x10_1 < (l0_0.length : Int)) = false := decide_eq_false c4;clear c4;obtain rfl := Option.some.inj H
        go_wp2
        go_ret
        exact ⟨_, rW, by (with_reducible repeat first|apply rA|apply rN|apply rD);exact HO_3.out, eB⟩

/-! ### commute_olds: function 53 -/
def commute_olds.l0 : Nat → List (S78) → List (S47) → Int → Int → Option ((List (S78)))
  | 0, _, _, _, _ => none
  | k + 1, x3, x7, x8, x9 => if x9 < x8 then (if 0 ≤ x9 then (if x9 < (x7.length : Int) then ((textpatch_End.f ((rd_T47 x7 x9).f0) ((rd_T47 x7 x9).f1) ((rd_T47 x7 x9).f2)).bind fun t161 => (if x3.length < 8796093022208 then (commute_olds.l0 k (x3 ++ [(⟨(rd_T47 x7 x9).f0, t161⟩ : S78)]) x7 x8 (wrap64 (x9 + 1))) else (none))) else (none)) else (none)) else (some x3)
def commute_olds.f (k : Nat) (l0_0 : List (S47)) : Option ((List (S78))) := commute_olds.l0 k ([] : List (S78)) l0_0 (l0_0.length : Int) 0
theorem commute_olds.mono_l : ∀ k, (∀ y0 y1 y2 y3, LeO (commute_olds.l0 k y0 y1 y2 y3) (commute_olds.l0 (k + 1) y0 y1 y2 y3))
  | 0 => fun _ _ _ _ r h => by simp [commute_olds.l0] at h
  | k + 1 => by
    have ih0 := commute_olds.mono_l k
    · intro y0 y1 y2 y3
      unfold commute_olds.l0
      repeat' first
      | (with_reducible exact ih0 _ _ _ _)
      | (with_reducible exact LeO.refl _)
      | (with_reducible exact LeO.none _)
      | (with_reducible refine LeO.ite ?_ ?_)
      | (with_reducible refine LeO.bind ?_ (fun _ => ?_))
      | exact ih0 _ _ _ _
      | exact LeO.none _
      | refine LeO.ite ?_ ?_
      | refine LeO.bind ?_ (fun _ => ?_)
theorem commute_olds.mono : ∀ a0 k, LeO (commute_olds.f k a0) (commute_olds.f (k + 1) a0) := by
  intro a0 k
  have ih0 := commute_olds.mono_l k
  unfold commute_olds.f
  repeat' first
      | (with_reducible exact ih0 _ _ _ _)
      | (with_reducible exact LeO.refl _)
      | (with_reducible exact LeO.none _)
      | (with_reducible refine LeO.ite ?_ ?_)
      | (with_reducible refine LeO.bind ?_ (fun _ => ?_))
      | exact ih0 _ _ _ _
      | exact LeO.none _
      | refine LeO.ite ?_ ?_
      | refine LeO.bind ?_ (fun _ => ?_)
def commute_olds.T5 : Bool × List (List Nat × List Nat) := (true, [([], []), ([], []), ([1], [1]), ([], []), ([3], [3]), ([2, 4], [2, 4]), ([5], [5]), ([0, 6, 4], [0, 6]), ([7, 7, 0, 1, 2, 3, 4, 5, 6, 7], [0, 7])])
def commute_olds.B5 : List Nat := [0, 0, 2, 0, 8, 30, 62, 127, 255]
theorem commute_olds.tab5 : rtab .any (opsOf Try.f53 5) = commute_olds.T5 := by kernel_rfl
theorem commute_olds.bits5 : waitsOk commute_olds.T5.2 commute_olds.B5 = true := by kernel_rfl
set_option maxHeartbeats 8000000 in
set_option maxRecDepth 100000 in
theorem commute_olds.calls (k : Nat) (A0_0 : Option Addr) (c0_0 : Nat) (l0_0 : List (S47)) (r : List (S78)) (w : World) (hr0_0 : Kd.C k47 w A0_0 l0_0.length l0_0) (hc0_0 : l0_0.length ≤ c0_0) (h : commute_olds.f k l0_0 = some r) :
    Calls Try.prog 53 #[.agg #[.slice A0_0 l0_0.length c0_0]] w fun e w' => ∃ v0_ : Value, e = .returned (v0_) ∧ Kd.R k78 78 w' w.heap.size (fun _ => True) v0_ r ∧ Below w.heap.size w w' := by
  have hu24 := Try.underlying24;have hu47 := Try.underlying47;have hu78 := Try.underlying78;have HR0_0 := Aside0.mk hr0_0;have HC0_0 := Aside0.mk hc0_0;clear hr0_0 hc0_0;have HB := Aside0.mk (Below.refl w.heap.size w);have H : (commute_olds.l0 k ([] : List (S78)) l0_0 (l0_0.length : Int) 0) = some r := h;clear h;have H' := Aside0.mk H;clear H
  go_enter Try.func53, Try.ntmps53
  go_wp2_with (first|((with_reducible refine gate_dst (N := 1) rfl ?_);refine bE 1 #[.slice A0_0 l0_0.length c0_0] 24 ?_;intro gb158 hg w2 hbox hb;have BK158 := Aside0.mk (hbox);have GW158 := gBe HB hg;have GE158 := gBe HB hg;replace HB := sBe HB hb;clear hb hbox hg;have hcz3_0 := hC BK158 0 (.slice A0_0 l0_0.length c0_0);have hfz3_0 := blk_frozen BK158.out 0))
  go_loopg [3, 9] k (fun kq v3 v9 w' => ∃ (x3_1 : List (S78)) (x9_1 : Int), v9 = .int .i64 x9_1 ∧ Aside0 (commute_olds.l0 kq x3_1 l0_0 (l0_0.length : Int) x9_1 = some r) ∧ Aside0 (kq ≤ k) ∧ Aside0 (Kd.R k78 78 w' w.heap.size (fun _ => True) v3 x3_1) ∧ Bk w' gb158 24 #[(.slice A0_0 l0_0.length c0_0)] ∧ Aside0 (Below w.heap.size w w'))
  case atStart => exact ⟨(([] : List (S78))), (0), (by first|rfl|(simp only [i64_w, i32_w];done)|(simp only [i64_w, i32_w];rfl)|(simp;done)|(simp [*];done)), H', ⟨Nat.le_refl _⟩, ⟨by first|exact Kd.R_nil _ _ _ _ _|exact Kd.N_nil _ _ _ _ _|exact Kd.V_nil _ _ _ _ _|exact Kd.Q_nil _ _ _ _ _|exact Kd.S_nil _ _ _ _ _⟩, ⟨kK⟩, ⟨eB⟩⟩
  case round =>
    clear H'
    try clear p2
    try clear hcz3_0
    try clear hfz3_0
    obtain ⟨x3_1, x9_1, rfl, HA, HK1, HO_3, BK158, HB⟩ := hrel
    cases gk with
    | zero => exact absurd HA.out (by simp [commute_olds.l0])
    | succ k1 =>
      have H := HA.out;clear HA;simp only [commute_olds.l0] at H
      by_cases c4 : x9_1 < (l0_0.length : Int)
      · rw [if_pos c4] at H;have c4b0 : decide (x9_1 < (l0_0.length : Int)) = true := decide_eq_true c4;clear c4
        by_cases c5 : 0 ≤ x9_1
        · rw [if_pos c5] at H;have c5b0 : decide (0 ≤ x9_1) = true := decide_eq_true c5;clear c5
          by_cases c6 : x9_1 < (l0_0.length : Int)
          · rw [if_pos c6] at H;have c6b0 : decide (x9_1 < (l0_0.length : Int)) = true := decide_eq_true c6;clear c6;replace H := Option.bind_eq_some_iff.mp H;obtain ⟨t161, A70, H⟩ := H;replace H : (if x3_1.length < 8796093022208 then (commute_olds.l0 k1 (x3_1 ++ [(⟨(rd_T47 l0_0 x9_1).f0, t161⟩ : S78)]) l0_0 (l0_0.length : Int) (wrap64 (x9_1 + 1))) else (none)) = some r := H;have A7 := Aside0.mk A70;clear A70
            by_cases c8 : x3_1.length < 8796093022208
            · rw [if_pos c8] at H;have LMc8 := Aside0.mk c8;clear c8;obtain ⟨y162, hy162⟩ : ∃ y_ : List (S78), y_ = (x3_1 ++ [(⟨(rd_T47 l0_0 x9_1).f0, t161⟩ : S78)]) := ⟨_, rfl⟩;replace H : (commute_olds.l0 k1 y162 l0_0 (l0_0.length : Int) (wrap64 (x9_1 + 1))) = some r := (by first|(rw [hy162];with_reducible exact H)|(have H2_ := (Option.bind_some _ _).symm.trans H;rw [hy162];with_reducible exact H2_)|(have H2_ := (Option.bind_some _ _).symm.trans H;with_reducible exact H2_)|with_reducible exact H|(rw [hy162];exact H)|exact H);have Ny162 := Aside0.mk hy162;clear hy162;have H' := Aside0.mk H;clear H;have p159 : 0 ≤ (x9_1 : Int) := dA;have q159 : x9_1 < (l0_0.length : Int) := dA;obtain ⟨ad159, A159_1, c159_1, A159_2, c159_2, e159, hx159_0, hx159_1, hx159_2, hl159_1, hi159_1, hl159_2, hi159_2⟩ := at_T47 HR0_0.out x9_1 p159 q159
              cases e159
              replace hx159_0 := (hX HB hx159_0:);replace hx159_1 := (hX HB hx159_1:);replace hx159_2 := (hX HB hx159_2:);have HR159_1 := Aside0.mk hi159_1;have HC159_1 := Aside0.mk hl159_1;clear hi159_1 hl159_1;have HR159_2 := Aside0.mk hi159_2;have HC159_2 := Aside0.mk hl159_2;clear hi159_2 hl159_2;replace p159 := eq_true p159;replace q159 := eq_true q159
              try go_wp2_with (first|((with_reducible refine gate_dst (N := 5) rfl ?_);refine bE 5 #[.int .i64 0, .slice none 0 0, .slice none 0 0] 47 ?_;intro gb160 hg w9 hbox hb;have BK160 := Aside0.mk (hbox);have GW160 := gBe HB hg;have GE160 := gBe HB hg;have NB158_160 := nL BK158 hg;have NB160_158 := nG BK158 hg;replace HO_3 := rL HO_3 hb;replace BK158 := lJ BK158 hb;replace HB := sBe HB hb;clear hb hbox hg;have hnb10 := NB160_158.out;have hnc10 := NB158_160.out;have hcz11_0 := hC BK160 0 (.int .i64 0);have hcz11_1 := hC BK160 1 (.slice none 0 0);have hcz11_2 := hC BK160 2 (.slice none 0 0);have hfz11_0 := blk_frozen BK160.out 0;have hfz11_1 := blk_frozen BK160.out 1;have hfz11_2 := blk_frozen BK160.out 2))
              obtain ⟨w12, hW_⟩ : ∃ w_, w_ = (((w9.setCell ⟨gb160, 0, none⟩ (.int .i64 ((rd_T47 l0_0 x9_1).f0))).setCell ⟨gb160, 1, none⟩ (.slice A159_1 ((rd_T47 l0_0 x9_1).f1).length c159_1)).setCell ⟨gb160, 2, none⟩ (.slice A159_2 ((rd_T47 l0_0 x9_1).f2).length c159_2)) := ⟨_, rfl⟩;have n0_ : Aside0 (Kd.R k78 78 w12 w.heap.size (fun _ => True) u3 x3_1) := ⟨by rw [hW_];(with_reducible repeat first|apply rA|apply rN|apply rD);exact Kd.R_mono (Kd.R_far (p := ⟨gb160, 2, none⟩) (Kd.R_far (p := ⟨gb160, 1, none⟩) (Kd.R_far (p := ⟨gb160, 0, none⟩) (Kd.R_types HO_3.out BK160.out (by decide)) (fun _ hk => hk.2) (.int .i64 ((rd_T47 l0_0 x9_1).f0))) (fun _ hk => hk.2) (.slice A159_1 ((rd_T47 l0_0 x9_1).f1).length c159_1)) (fun _ hk => hk.2) (.slice A159_2 ((rd_T47 l0_0 x9_1).f2).length c159_2)) (fun _ hk => trivial)⟩;have n1_ : Bk w12 gb158 24 #[.slice (some ad159) l0_0.length c0_0] := ⟨by rw [hW_];exact kK⟩;have n2_ : Bk w12 gb160 47 #[.int .i64 ((rd_T47 l0_0 x9_1).f0), .slice A159_1 ((rd_T47 l0_0 x9_1).f1).length c159_1, .slice A159_2 ((rd_T47 l0_0 x9_1).f2).length c159_2] := ⟨by rw [hW_];exact kK⟩;have n3_ : Aside0 (Below w.heap.size w w12) := ⟨by rw [hW_];exact eB⟩;(try clear HO_3);(try clear BK158);(try clear BK160);(try clear HB);(try rw [← hW_]);clear hW_;have HO_3 := n0_;have BK158 := n1_;have BK160 := n2_;have HB := n3_;clear n0_ n1_ n2_ n3_;replace HO_3 := Aside0.mk (Kd.R_drew HO_3.out);replace BK158 := Aside0.mk (blk_drew BK158.out);replace BK160 := Aside0.mk (blk_drew BK160.out);replace HB := Aside0.mk (below_drew1 HB.out);refine start_ (n := 9) (S := fun w' => w'.cell? ⟨gb160, 0, none⟩ = some (.int .i64 ((rd_T47 l0_0 x9_1).f0)) ∧ w'.cell? ⟨gb160, 1, none⟩ = some (.slice A159_1 ((rd_T47 l0_0 x9_1).f1).length c159_1) ∧ w'.cell? ⟨gb160, 2, none⟩ = some (.slice A159_2 ((rd_T47 l0_0 x9_1).f2).length c159_2)) (ds := []) (mb 9 0) (by kernel_rfl) rfl (by kernel_rfl) ⟨(blk_cell BK160.out 0).trans rfl, (blk_cell BK160.out 1).trans rfl, (blk_cell BK160.out 2).trans rfl⟩ (fun hHeld => ?_);refine with_tabW commute_olds.tab5 commute_olds.bits5 (fun HT_ HW_ => ?_);generalize w12.drew = w13 at HO_3 BK158 BK160 HB hHeld ⊢;refine pA 0 13 (mb 9 1) HT_ rfl rfl ?_;refine pA 1 14 (mb 9 3) HT_ rfl rfl ?_;refine tA 2 15 (mb 9 7) HT_ HW_ hHeld rfl rfl (by rintro w' ⟨s0, s1, s2⟩;go_simp;with_reducible rfl) ?_;refine tA 3 16 (mb 9 15) HT_ HW_ hHeld rfl rfl (by rintro w' ⟨s0, s1, s2⟩;go_simp;with_reducible rfl) ?_;refine one_ (i := 4) (N := some 17) (mb 9 31) rfl rfl (one_of HT_.out (by kernel_rfl)) (by decide) (fun K hK => ?_);refine goes_ Try.func33 (by kernel_rfl) rfl #[.agg #[.int .i64 ((rd_T47 l0_0 x9_1).f0), .slice A159_1 ((rd_T47 l0_0 x9_1).f1).length c159_1, .slice A159_2 ((rd_T47 l0_0 x9_1).f2).length c159_2]] (by rfl) rfl rfl mA ?_
              with_reducible refine (textpatch_End.calls ((rd_T47 l0_0 x9_1).f0) _ _ ((rd_T47 l0_0 x9_1).f1) _ _ ((rd_T47 l0_0 x9_1).f2) t161 _ ?side1 ?side2 ?side3 ?side4 A7.out).mono ?_
              (case side1 => exact cBe HR159_1);(case side2 => exact HC159_1.out);(case side3 => exact cBe HR159_2);(case side4 => exact HC159_2.out)
              rintro e w14 ⟨rfl, hb⟩
              refine ⟨_, rfl, ?_⟩;replace HO_3 := rL HO_3 hb;replace BK158 := lJ BK158 hb;replace BK160 := lJ BK160 hb;replace HB := sBe HB hb;(try clear hb);refine hK.out _ _ ⟨(blk_cell BK160.out 0).trans rfl, (blk_cell BK160.out 1).trans rfl, (blk_cell BK160.out 2).trans rfl⟩ (fun hHeld => ?_);clear hK K;refine nmA (some 17) ?_;refine pA 5 18 (mb 9 63) HT_ rfl rfl ?_;refine one_ (i := 6) (N := some 19) (mb 9 127) rfl rfl (one_of HT_.out (by kernel_rfl)) (by decide) (fun K hK => ?_);refine value_ (w1 := ?_) (v := ?_) (by rfl) rfl ?_ ?_;rotate_left 2
              · go_simp
                constructor
                · rfl
                · rfl
              refine hK.out _ _ ⟨(blk_cell (blk_alloc BK160.out _) 0).trans rfl, (blk_cell (blk_alloc BK160.out _) 1).trans rfl, (blk_cell (blk_alloc BK160.out _) 2).trans rfl⟩ (fun hHeld => ?_);clear hK K;refine nmA (some 19) ?_;refine one_ (i := 7) (N := some 20) (mb 9 255) rfl rfl (one_of HT_.out (by kernel_rfl)) (by decide) (fun K hK => ?_);refine Kd.R_append_step k78 (w0 := w) w.heap.size (by rfl) (.tmp 13) (.tmp 19) 63 78 (.agg #[(.int .i64 0), (.int .i64 0)]) 16 rfl Try.underlying63 info78 rfl (by decide) (by omega) u3 x3_1 (⟨(rd_T47 l0_0 x9_1).f0, t161⟩ : S78) [.int .i64 ((rd_T47 l0_0 x9_1).f0), .int .i64 t161] (fun _ => True) (fun _ => False) rfl rfl ?aP (fun _ hk => hk.elim) ?aF ?aO ?aB ?aS ?aL ?_;(case aP => exact k78_mkM _ _ _ (⟨(rd_T47 l0_0 x9_1).f0, t161⟩ : S78));(case aB => exact eB);(case aF => exact (fun _ _ => trivial));(case aO => exact (rK HO_3));(case aS => exact (below_size eB));(case aL => have := LMc8.out;omega)
              intro v163 w15 ho hb hg hat
              rw [← Ny162.out] at ho;have n0_ := Aside0.mk (blk_grown (g := gb158) (o := .cells #[.slice (some ad159) l0_0.length c0_0] 24 (0, 0)) kK hg (Kd.R_ne HO_3.out BK158.out (by decide)));have n1_ := Aside0.mk (blk_grown (g := gb160) (o := .cells #[.int .i64 ((rd_T47 l0_0 x9_1).f0), .slice A159_1 ((rd_T47 l0_0 x9_1).f1).length c159_1, .slice A159_2 ((rd_T47 l0_0 x9_1).f2).length c159_2] 47 (0, 0)) kK hg (Kd.R_ne HO_3.out BK160.out (by decide)));have n2_ := Aside0.mk (hb);have n3_ := Aside0.mk (ho);clear BK158;clear BK160;clear HB;clear HO_3;have BK158 := n0_;have BK160 := n1_;have HB := n2_;have HO164 := n3_;clear n0_ n1_ n2_ n3_;clear ho hb hg hat;refine hK.out _ _ ⟨(blk_cell BK160.out 0).trans rfl, (blk_cell BK160.out 1).trans rfl, (blk_cell BK160.out 2).trans rfl⟩ (fun hHeld => ?_);clear hK K;refine nmA (some 20) ?_;refine pA 8 3 (mb 9 511) HT_ rfl rfl ?_;refine done_ (done_of HT_.out (by kernel_rfl)) ?_
              try go_wp2
              go_roundg k1
              case measure => have := HK1.out;omega
              case rel => exact ⟨(y162), (wrap64 (x9_1 + 1)), (by first|rfl|(simp only [i64_w, i32_w];done)|(simp only [i64_w, i32_w];rfl)|(simp;done)|(simp [*];done)), H', ⟨by have := HK1.out;omega⟩, ⟨by (with_reducible repeat first|apply rA|apply rN|apply rD);exact HO164.out⟩, ⟨kK⟩, ⟨eB⟩⟩
            · rw [if_neg c8] at H;exact absurd H (by simp)
          · rw [if_neg c6] at H;exact absurd H (by simp)
        · rw [if_neg c5] at H;exact absurd H (by simp)
      · rw [if_neg c4] at H;have c4b0 : decide (x9_1 < (l0_0.length : Int)) = false := decide_eq_false c4;clear c4;obtain rfl := Option.some.inj H
        go_wp2
        go_ret
        exact ⟨_, rW, by (with_reducible repeat first|apply rA|apply rN|apply rD);exact HO_3.out, eB⟩

/-! ### slices_Clone_string_string: function 39 -/
def slices_Clone_string_string.f (l0 : List ByteArray) : Option (List ByteArray) :=  if l0.length ≤ 8796093022208 then some l0 else none
theorem slices_Clone_string_string.calls (A0 : Option Addr) (c0 : Nat) (l0 : List ByteArray) (r : List ByteArray) (w : World) (hr0 : Kd.C Kd.string w A0 l0.length l0) (hc0 : l0.length ≤ c0) (h : slices_Clone_string_string.f l0 = some r) :
    Calls Try.prog 39 #[.slice A0 l0.length c0] w fun e w' => ∃ v0_ : Value, e = .returned (v0_) ∧ Kd.R Kd.string 9 w' w.heap.size (fun _ => True) v0_ r ∧ Below w.heap.size w w' := by
  replace h : (if l0.length ≤ 8796093022208 then some l0 else none) = some r := h
  by_cases hb : l0.length ≤ 8796093022208
  · rw [if_pos hb] at h
    obtain rfl := Option.some.inj h
    cases A0 with
    | none =>
      have hl : l0 = [] := by
        have := (Kd.reads_of_C (enc := Value.string) (d := ByteArray.empty) (h1 := fun _ => rfl) hr0).2.2
        cases l0 with
        | nil => rfl
        | cons a r => obtain ⟨ad, e, _⟩ := this (by simp); cases e
      subst hl
      refine (Try.slices_Clone_string_nil 0 c0 w).mono fun e w' ⟨he, hw⟩ => ⟨_, he, Kd.R_nil _ _ _ _ _, by rw [hw]; exact Below.refl _ _⟩
    | some a =>
      by_cases h0 : l0.length = 0
      · have hl : l0 = [] := List.eq_nil_of_length_eq_zero h0
        subst hl
        refine (Try.slices_Clone_string_zero a c0 w).mono fun e w' ⟨v', he, ho, _, hbel⟩ => ⟨v', he, Kd.R_of_own (enc := Value.string) (h1 := fun _ => rfl) (xs := []) ho (fun _ _ => trivial), hbel⟩
      · obtain ⟨ad, e, hc⟩ := (Kd.reads_of_C (enc := Value.string) (d := ByteArray.empty) (h1 := fun _ => rfl) hr0).2.2 (by omega)
        obtain rfl := Option.some.inj e
        obtain ⟨b, off, f⟩ := a
        obtain rfl : f = none := by
          have := hc 0 (by omega)
          cases f with
          | none => rfl
          | some s =>
            unfold Addr.add World.cell? at this
            rw [if_pos rfl] at this
            simp at this
            split at this <;> simp at this
        refine (Try.slices_Clone_string b off l0.length c0 l0 w (Nat.le_refl _) (by omega) ?_).mono fun e w' ⟨v', he, ho, _, hbel⟩ => ⟨v', he, Kd.R_of_own (enc := Value.string) (h1 := fun _ => rfl) (xs := l0) (by rw [List.take_length] at ho; exact ho) (fun _ _ => trivial), hbel⟩
        intro j hj
        have := hc j hj
        have e : (⟨b, off, none⟩ : Addr).add j = ⟨b, off + j, none⟩ := by unfold Addr.add; split <;> simp_all
        rw [e] at this
        exact this
  · rw [if_neg hb] at h; cases h


/-! ### textpatch_Moved: function 65 -/
def textpatch_Moved.f (a0_0 : Int) (l0_1 : List ByteArray) (l0_2 : List ByteArray) (a1 : Int) : Option (Int × List ByteArray × List ByteArray) := (slices_Clone_string_string.f l0_1).bind fun t167 => ((slices_Clone_string_string.f l0_2).bind fun t170 => (some (a1, t167, t170)))
def textpatch_Moved.T1 : Bool × List (List Nat × List Nat) := (true, [([], []), ([], []), ([1], [1]), ([2], [2]), ([], []), ([4], [4]), ([5, 3], [5]), ([0, 3, 6], [0, 3, 6]), ([7, 6, 0, 1, 2, 3, 4, 5, 6, 7], [7])])
def textpatch_Moved.B1 : List Nat := [0, 0, 2, 6, 0, 16, 62, 127, 255]
theorem textpatch_Moved.tab1 : rtab .any (opsOf Try.f65 1) = textpatch_Moved.T1 := by kernel_rfl
theorem textpatch_Moved.bits1 : waitsOk textpatch_Moved.T1.2 textpatch_Moved.B1 = true := by kernel_rfl
set_option maxHeartbeats 8000000 in
set_option maxRecDepth 100000 in
theorem textpatch_Moved.calls (a0_0 : Int) (A0_1 : Option Addr) (c0_1 : Nat) (l0_1 : List ByteArray) (A0_2 : Option Addr) (c0_2 : Nat) (l0_2 : List ByteArray) (a1 : Int) (r1 : Int) (r2 : List ByteArray) (r3 : List ByteArray) (w : World) (hr0_1 : Kd.C Kd.string w A0_1 l0_1.length l0_1) (hc0_1 : l0_1.length ≤ c0_1) (hr0_2 : Kd.C Kd.string w A0_2 l0_2.length l0_2) (hc0_2 : l0_2.length ≤ c0_2) (h : textpatch_Moved.f a0_0 l0_1 l0_2 a1 = some (r1, r2, r3)) :
    Calls Try.prog 65 #[.agg #[.int .i64 a0_0, .slice A0_1 l0_1.length c0_1, .slice A0_2 l0_2.length c0_2], .int .i64 a1] w fun e w' => ∃ v1_ v2_ : Value, e = .returned (.agg #[.int .i64 r1, v1_, v2_]) ∧ Kd.R Kd.string 9 w' w.heap.size (fun k_ => some k_ ≠ (v2_ : Value).ownBlock) v1_ r2 ∧ Kd.R Kd.string 9 w' w.heap.size (fun k_ => some k_ ≠ (v1_ : Value).ownBlock) v2_ r3 ∧ Below w.heap.size w w' := by
  have hu47 := Try.underlying47;have HR0_1 := Aside0.mk hr0_1;have HC0_1 := Aside0.mk hc0_1;clear hr0_1 hc0_1;have HR0_2 := Aside0.mk hr0_2;have HC0_2 := Aside0.mk hc0_2;clear hr0_2 hc0_2;have HB := Aside0.mk (Below.refl w.heap.size w);have H : ((slices_Clone_string_string.f l0_1).bind fun t167 => ((slices_Clone_string_string.f l0_2).bind fun t170 => (some (a1, t167, t170)))) = some (r1, r2, r3) := h;clear h;replace H := Option.bind_eq_some_iff.mp H;obtain ⟨t167, A30, H⟩ := H;replace H : ((slices_Clone_string_string.f l0_2).bind fun t170 => (some (a1, t167, t170))) = some (r1, r2, r3) := H;have A3 := Aside0.mk A30;clear A30;replace H := Option.bind_eq_some_iff.mp H;obtain ⟨t170, A40, H⟩ := H;replace H : (some (a1, t167, t170)) = some (r1, r2, r3) := H;have A4 := Aside0.mk A40;clear A40;simp only [Option.some.injEq, Prod.mk.injEq] at H;obtain ⟨rfl, rfl, rfl⟩ := H
  go_enter Try.func65, Try.ntmps65
  try go_wp2_with (first|((with_reducible refine gate_dst (N := 2) rfl ?_);refine bE 2 #[.int .i64 a0_0, .slice A0_1 l0_1.length c0_1, .slice A0_2 l0_2.length c0_2] 47 ?_;intro gb165 hg w5 hbox hb;have BK165 := Aside0.mk (hbox);have GW165 := gBe HB hg;have GE165 := gBe HB hg;replace HB := sBe HB hb;clear hb hbox hg)|((with_reducible refine gate_dst (N := 4) rfl ?_);refine bE 4 #[.int .i64 0, .slice none 0 0, .slice none 0 0] 47 ?_;intro gb166 hg w6 hbox hb;have BK166 := Aside0.mk (hbox);have GW166 := gBe HB hg;have GE166 := gBe HB hg;have NB165_166 := nL BK165 hg;have NB166_165 := nG BK165 hg;replace BK165 := lJ BK165 hb;replace HB := sBe HB hb;clear hb hbox hg))
  replace BK165 := Aside0.mk (blk_drew BK165.out);replace BK166 := Aside0.mk (blk_drew BK166.out);replace HB := Aside0.mk (below_drew1 HB.out);refine start_ (n := 9) (S := fun w' => w'.cell? ⟨gb165, 0, none⟩ = some (.int .i64 a0_0) ∧ w'.cell? ⟨gb165, 1, none⟩ = some (.slice A0_1 l0_1.length c0_1) ∧ w'.cell? ⟨gb165, 2, none⟩ = some (.slice A0_2 l0_2.length c0_2)) (ds := []) (mb 9 0) (by kernel_rfl) rfl (by kernel_rfl) ⟨(blk_cell BK165.out 0).trans rfl, (blk_cell BK165.out 1).trans rfl, (blk_cell BK165.out 2).trans rfl⟩ (fun hHeld => ?_);refine with_tabW textpatch_Moved.tab1 textpatch_Moved.bits1 (fun HT_ HW_ => ?_);generalize w6.drew = w7 at BK165 BK166 HB hHeld ⊢;refine pA 0 5 (mb 9 1) HT_ rfl rfl ?_;refine pA 1 6 (mb 9 3) HT_ rfl rfl ?_;refine pA 4 9 (mb 9 19) HT_ rfl rfl ?_;refine tA 2 7 (mb 9 23) HT_ HW_ hHeld rfl rfl (by rintro w' ⟨s0, s1, s2⟩;go_simp;with_reducible rfl) ?_;refine tA 5 10 (mb 9 55) HT_ HW_ hHeld rfl rfl (by rintro w' ⟨s0, s1, s2⟩;go_simp;with_reducible rfl) ?_;refine one_ (i := 3) (N := some 8) (mb 9 63) rfl rfl (one_of HT_.out (by kernel_rfl)) (by decide) (fun K hK => ?_);refine goes_ Try.func39 (by kernel_rfl) rfl #[.slice A0_1 l0_1.length c0_1] (by rfl) rfl rfl mA ?_
  with_reducible refine (slices_Clone_string_string.calls _ _ l0_1 t167 _ ?side1 ?side2 A3.out).mono ?_
  (case side1 => exact cBe HR0_1);(case side2 => exact HC0_1.out)
  rintro e w8 ⟨v168, rfl, ho0, hb⟩
  refine ⟨_, rfl, ?_⟩;have HO169 := Aside0.mk (Kd.R_lower ho0 (below_size eB));replace BK165 := lJ BK165 hb;replace BK166 := lJ BK166 hb;replace HB := sBe HB hb;(try clear hb ho0);refine hK.out _ _ ⟨(blk_cell BK165.out 0).trans rfl, (blk_cell BK165.out 1).trans rfl, (blk_cell BK165.out 2).trans rfl⟩ (fun hHeld => ?_);clear hK K;refine nmA (some 8) ?_;refine one_ (i := 6) (N := some 11) (mb 9 127) rfl rfl (one_of HT_.out (by kernel_rfl)) (by decide) (fun K hK => ?_);refine goes_ Try.func39 (by kernel_rfl) rfl #[.slice A0_2 l0_2.length c0_2] (by rfl) rfl rfl mA ?_
  with_reducible refine (slices_Clone_string_string.calls _ _ l0_2 t170 _ ?side1 ?side2 A4.out).mono ?_
  (case side1 => exact cBe HR0_2);(case side2 => exact HC0_2.out)
  rintro e w9 ⟨v171, rfl, ho0, hb⟩
  refine ⟨_, rfl, ?_⟩;have HO172 := Aside0.mk (Kd.R_lower (Kd.R_new' ho0 (Kd.R_lt (rK HO169))) (below_size eB));replace HO169 := Aside0.mk (Kd.R_elder' (rK HO169) (Kd.R_base ho0) hb);replace BK165 := lJ BK165 hb;replace BK166 := lJ BK166 hb;replace HB := sBe HB hb;(try clear hb ho0);obtain ⟨Ao10, co10, eo10⟩ := Kd.R_slice HO172.out
  (first|subst eo10|(injection eo10 with f1_ f2_ f3_;have f4_ := f1_.symm;have f5_ := f3_.symm;clear f1_ f2_ f3_;subst f4_;subst f5_))
  obtain ⟨Ao11, co11, eo11⟩ := Kd.R_slice HO169.out
  (first|subst eo11|(injection eo11 with f1_ f2_ f3_;have f4_ := f1_.symm;have f5_ := f3_.symm;clear f1_ f2_ f3_;subst f4_;subst f5_))
  refine hK.out _ _ ⟨(blk_cell BK165.out 0).trans rfl, (blk_cell BK165.out 1).trans rfl, (blk_cell BK165.out 2).trans rfl⟩ (fun hHeld => ?_);clear hK K;refine nmA (some 11) ?_;refine pA 7 12 (mb 9 255) HT_ rfl rfl ?_;refine one_ (i := 8) (N := none) (mb 9 511) rfl rfl (one_of HT_.out (by kernel_rfl)) (by decide) (fun K hK => ?_);have hs12 : w9.cell? ⟨gb166, 0, none⟩ = some (.int .i64 0) := (blk_cell BK166.out 0).trans rfl;have hfs12 := blk_frozen BK166.out 0;have := NB165_166.out;have := NB166_165.out;have hs13 : w9.cell? ⟨gb166, 1, none⟩ = some (.slice none 0 0) := (blk_cell BK166.out 1).trans rfl;have hfs13 := blk_frozen BK166.out 1;have := NB165_166.out;have := NB166_165.out;have hs14 : w9.cell? ⟨gb166, 2, none⟩ = some (.slice none 0 0) := (blk_cell BK166.out 2).trans rfl;have hfs14 := blk_frozen BK166.out 2;have := NB165_166.out;have := NB166_165.out;refine skip_ (w1 := ?_) (by rfl) rfl ?_ ?_;rotate_left
  · go_simp
    rfl
  refine hK.out _ _ ⟨((cell_far (p := ⟨gb166, _, none⟩) NB165_166.out _).trans (((cell_far (p := ⟨gb166, _, none⟩) NB165_166.out _).trans (((cell_far (p := ⟨gb166, _, none⟩) NB165_166.out _).trans (hHeld.1)))))), ((cell_far (p := ⟨gb166, _, none⟩) NB165_166.out _).trans (((cell_far (p := ⟨gb166, _, none⟩) NB165_166.out _).trans (((cell_far (p := ⟨gb166, _, none⟩) NB165_166.out _).trans (hHeld.2.1)))))), ((cell_far (p := ⟨gb166, _, none⟩) NB165_166.out _).trans (((cell_far (p := ⟨gb166, _, none⟩) NB165_166.out _).trans (((cell_far (p := ⟨gb166, _, none⟩) NB165_166.out _).trans (hHeld.2.2))))))⟩ (fun hHeld => ?_);clear hK K;refine done_ (done_of HT_.out (by kernel_rfl)) ?_
  try go_wp2
  refine bodyPost_ret (results_cell_row rfl _ _ gb166 47 #[.int .i64 a1, .slice Ao11 t167.length co11, .slice Ao10 t170.length co10] (0, 0) _ rfl kK Try.underlying47 rfl (by kernel_rfl)) rfl ?_;exact ⟨_, _, rW, by (with_reducible repeat first|apply rA|apply rN|apply rD);exact Kd.R_mono (Kd.R_far (p := ⟨gb166, 2, none⟩) (Kd.R_far (p := ⟨gb166, 1, none⟩) (Kd.R_far (p := ⟨gb166, 0, none⟩) (Kd.R_types HO169.out BK166.out (by decide)) (fun _ hk => hk.2) (.int .i64 a1)) (fun _ hk => hk.2) (.slice Ao11 t167.length co11)) (fun _ hk => hk.2) (.slice Ao10 t170.length co10)) (fun _ hk => hk.1.2), by (with_reducible repeat first|apply rA|apply rN|apply rD);exact Kd.R_mono (Kd.R_far (p := ⟨gb166, 2, none⟩) (Kd.R_far (p := ⟨gb166, 1, none⟩) (Kd.R_far (p := ⟨gb166, 0, none⟩) (Kd.R_types HO172.out BK166.out (by decide)) (fun _ hk => hk.2) (.int .i64 a1)) (fun _ hk => hk.2) (.slice Ao11 t167.length co11)) (fun _ hk => hk.2) (.slice Ao10 t170.length co10)) (fun _ hk => hk.1.2), eB⟩

/-! ### commute_growth: function 66 -/
def commute_growth.l0 : Nat → List (S78) → Int → Int → List (S47) → Int → Int → Option (Int)
  | 0, _, _, _, _, _, _ => none
  | k + 1, x1, x2, x7, x11, x12, x13 => if x13 < x12 then (if 0 ≤ x13 then (if x13 < (x11.length : Int) then (if x13 < (x1.length : Int) then (if ((rd_T78 x1 x13).f1) < x2 then (commute_growth.l0 k x1 x2 (wrap64 (x7 + (wrap64 ((((rd_T47 x11 x13).f2).length : Int) - (((rd_T47 x11 x13).f1).length : Int))))) x11 x12 (wrap64 (x13 + 1))) else (commute_growth.l0 k x1 x2 x7 x11 x12 (wrap64 (x13 + 1)))) else (none)) else (none)) else (none)) else (some x7)
def commute_growth.f (k : Nat) (l0_0 : List (S47)) (l1 : List (S78)) (a2 : Int) : Option (Int) := commute_growth.l0 k l1 a2 0 l0_0 (l0_0.length : Int) 0
theorem commute_growth.mono_l : ∀ k, (∀ y0 y1 y2 y3 y4 y5, LeO (commute_growth.l0 k y0 y1 y2 y3 y4 y5) (commute_growth.l0 (k + 1) y0 y1 y2 y3 y4 y5))
  | 0 => fun _ _ _ _ _ _ r h => by simp [commute_growth.l0] at h
  | k + 1 => by
    have ih0 := commute_growth.mono_l k
    · intro y0 y1 y2 y3 y4 y5
      unfold commute_growth.l0
      repeat' first
      | (with_reducible exact ih0 _ _ _ _ _ _)
      | (with_reducible exact LeO.refl _)
      | (with_reducible exact LeO.none _)
      | (with_reducible refine LeO.ite ?_ ?_)
      | (with_reducible refine LeO.bind ?_ (fun _ => ?_))
      | exact ih0 _ _ _ _ _ _
      | exact LeO.none _
      | refine LeO.ite ?_ ?_
      | refine LeO.bind ?_ (fun _ => ?_)
theorem commute_growth.mono : ∀ a0 a1 a2 k, LeO (commute_growth.f k a0 a1 a2) (commute_growth.f (k + 1) a0 a1 a2) := by
  intro a0 a1 a2 k
  have ih0 := commute_growth.mono_l k
  unfold commute_growth.f
  repeat' first
      | (with_reducible exact ih0 _ _ _ _ _ _)
      | (with_reducible exact LeO.refl _)
      | (with_reducible exact LeO.none _)
      | (with_reducible refine LeO.ite ?_ ?_)
      | (with_reducible refine LeO.bind ?_ (fun _ => ?_))
      | exact ih0 _ _ _ _ _ _
      | exact LeO.none _
      | refine LeO.ite ?_ ?_
      | refine LeO.bind ?_ (fun _ => ?_)
set_option maxHeartbeats 8000000 in
set_option maxRecDepth 100000 in
theorem commute_growth.calls (k : Nat) (A0_0 : Option Addr) (c0_0 : Nat) (l0_0 : List (S47)) (A1 : Option Addr) (c1 : Nat) (l1 : List (S78)) (a2 : Int) (r : Int) (w : World) (hr0_0 : Kd.C k47 w A0_0 l0_0.length l0_0) (hc0_0 : l0_0.length ≤ c0_0) (hr1 : Kd.C k78 w A1 l1.length l1) (hc1 : l1.length ≤ c1) (h : commute_growth.f k l0_0 l1 a2 = some r) :
    Calls Try.prog 66 #[.agg #[.slice A0_0 l0_0.length c0_0], .slice A1 l1.length c1, .int .i64 a2] w fun e w' => e = .returned (.int .i64 r) ∧ Below w.heap.size w w' := by
  have hu24 := Try.underlying24;have hu47 := Try.underlying47;have HR0_0 := Aside0.mk hr0_0;have HC0_0 := Aside0.mk hc0_0;clear hr0_0 hc0_0;have HR1 := Aside0.mk hr1;have HC1 := Aside0.mk hc1;clear hr1 hc1;have HB := Aside0.mk (Below.refl w.heap.size w);have H : (commute_growth.l0 k l1 a2 0 l0_0 (l0_0.length : Int) 0) = some r := h;clear h;have H' := Aside0.mk H;clear H
  go_enter Try.func66, Try.ntmps66
  go_wp2_with (first|((with_reducible refine gate_dst (N := 3) rfl ?_);refine bE 3 #[.slice A0_0 l0_0.length c0_0] 24 ?_;intro gb173 hg w4 hbox hb;have BK173 := Aside0.mk (hbox);have GW173 := gBe HB hg;have GE173 := gBe HB hg;replace HB := sBe HB hb;clear hb hbox hg;have hcz5_0 := hC BK173 0 (.slice A0_0 l0_0.length c0_0);have hfz5_0 := blk_frozen BK173.out 0))
  go_loopg [7, 13] k (fun kq v7 v13 w' => ∃ (x7_1 : Int) (x13_1 : Int), v7 = .int .i64 x7_1 ∧ v13 = .int .i64 x13_1 ∧ Aside0 (commute_growth.l0 kq l1 a2 x7_1 l0_0 (l0_0.length : Int) x13_1 = some r) ∧ Aside0 (kq ≤ k) ∧ Bk w' gb173 24 #[(.slice A0_0 l0_0.length c0_0)] ∧ Aside0 (Below w.heap.size w w'))
  case atStart => exact ⟨(0), (0), (by first|rfl|(simp only [i64_w, i32_w];done)|(simp only [i64_w, i32_w];rfl)|(simp;done)|(simp [*];done)), (by first|rfl|(simp only [i64_w, i32_w];done)|(simp only [i64_w, i32_w];rfl)|(simp;done)|(simp [*];done)), H', ⟨Nat.le_refl _⟩, ⟨kK⟩, ⟨eB⟩⟩
  case round =>
    clear H'
    try clear c1
    try clear p2
    try clear hcz5_0
    try clear hfz5_0
    obtain ⟨x7_1, x13_1, rfl, rfl, HA, HK1, BK173, HB⟩ := hrel
    cases gk with
    | zero => exact absurd HA.out (by simp [commute_growth.l0])
    | succ k1 =>
      have H := HA.out;clear HA;simp only [commute_growth.l0] at H
      by_cases c6 : x13_1 < (l0_0.length : Int)
      · rw [if_pos c6] at H;have c6b0 : decide (x13_1 < (l0_0.length : Int)) = true := decide_eq_true c6;clear c6
        by_cases c7 : 0 ≤ x13_1
        · rw [if_pos c7] at H;have c7b0 : decide (0 ≤ x13_1) = true := decide_eq_true c7;clear c7
          by_cases c8 : x13_1 < (l0_0.length : Int)
          · rw [if_pos c8] at H;have c8b0 : decide (x13_1 < (l0_0.length : Int)) = true := decide_eq_true c8;clear c8
            by_cases c9 : x13_1 < (l1.length : Int)
            · rw [if_pos c9] at H;have c9b0 : decide (x13_1 < (l1.length : Int)) = true := decide_eq_true c9;clear c9;have p174 : 0 ≤ (x13_1 : Int) := dA;have q174 : x13_1 < (l0_0.length : Int) := dA;obtain ⟨ad174, A174_1, c174_1, A174_2, c174_2, e174, hx174_0, hx174_1, hx174_2, hl174_1, hi174_1, hl174_2, hi174_2⟩ := at_T47 HR0_0.out x13_1 p174 q174
              cases e174
              replace hx174_0 := (hX HB hx174_0:);replace hx174_1 := (hX HB hx174_1:);replace hx174_2 := (hX HB hx174_2:);have HR174_1 := Aside0.mk hi174_1;have HC174_1 := Aside0.mk hl174_1;clear hi174_1 hl174_1;have HR174_2 := Aside0.mk hi174_2;have HC174_2 := Aside0.mk hl174_2
              by_cases c10 : ((rd_T78 l1 x13_1).f1) < a2
              · rw [if_pos c10] at H;have c10b0 : decide (((rd_T78 l1 x13_1).f1) < a2) = true := decide_eq_true c10;clear c10;have H' := Aside0.mk H;clear H;clear hi174_2 hl174_2;replace p174 := eq_true p174;replace q174 := eq_true q174
                go_wp2_with (first|((with_reducible refine gate_dst (N := 9) rfl ?_);refine bE 9 #[.int .i64 0, .slice none 0 0, .slice none 0 0] 47 ?_;intro gb175 hg w11 hbox hb;have BK175 := Aside0.mk (hbox);have GW175 := gBe HB hg;have GE175 := gBe HB hg;have NB173_175 := nL BK173 hg;have NB175_173 := nG BK173 hg;replace BK173 := lJ BK173 hb;replace HB := sBe HB hb;clear hb hbox hg;have hnb12 := NB175_173.out;have hnc12 := NB173_175.out;have hcz13_0 := hC BK175 0 (.int .i64 0);have hcz13_1 := hC BK175 1 (.slice none 0 0);have hcz13_2 := hC BK175 2 (.slice none 0 0);have hfz13_0 := blk_frozen BK175.out 0;have hfz13_1 := blk_frozen BK175.out 1;have hfz13_2 := blk_frozen BK175.out 2;have p176 : 0 ≤ (x13_1 : Int) := dA;have q176 : x13_1 < (l1.length : Int) := dA;obtain ⟨ad176, e176, hx176_0, hx176_1⟩ := at_T78 HR1.out x13_1 p176 q176;cases e176;have hn176_0 : ad176.block ≠ gb175 := Nat.ne_of_lt (Nat.lt_of_lt_of_le (by have := World.block_lt_of_cell? _ _ hx176_0;first|rwa [add_block] at this|exact this) GW175.out);have hn176_1 : ad176.block ≠ gb175 := Nat.ne_of_lt (Nat.lt_of_lt_of_le (by have := World.block_lt_of_cell? _ _ hx176_0;first|rwa [add_block] at this|exact this) GW175.out);have hn176_2 : ad176.block ≠ gb175 := Nat.ne_of_lt (Nat.lt_of_lt_of_le (by have := World.block_lt_of_cell? _ _ hx176_0;first|rwa [add_block] at this|exact this) GW175.out);replace hx176_0 := (hX HB hx176_0:);replace hx176_1 := (hX HB hx176_1:);replace hx176_0 := (cell_far (p := ⟨gb175, 0, none⟩) (by first|(rw [add_block];exact hn176_0)|(show (Addr.add _ _).block ≠ _;rw [add_block];exact hn176_0)|exact hn176_0) (.int .i64 ((rd_T47 l0_0 x13_1).f0))).trans hx176_0;replace hx176_1 := (cell_far (p := ⟨gb175, 0, none⟩) (by first|(rw [add_block];exact hn176_0)|(show (Addr.add _ _).block ≠ _;rw [add_block];exact hn176_0)|exact hn176_0) (.int .i64 ((rd_T47 l0_0 x13_1).f0))).trans hx176_1;replace hx176_0 := (cell_far (p := ⟨gb175, 1, none⟩) (by first|(rw [add_block];exact hn176_1)|(show (Addr.add _ _).block ≠ _;rw [add_block];exact hn176_1)|exact hn176_1) (.slice A174_1 ((rd_T47 l0_0 x13_1).f1).length c174_1)).trans hx176_0;replace hx176_1 := (cell_far (p := ⟨gb175, 1, none⟩) (by first|(rw [add_block];exact hn176_1)|(show (Addr.add _ _).block ≠ _;rw [add_block];exact hn176_1)|exact hn176_1) (.slice A174_1 ((rd_T47 l0_0 x13_1).f1).length c174_1)).trans hx176_1;replace hx176_0 := (cell_far (p := ⟨gb175, 2, none⟩) (by first|(rw [add_block];exact hn176_2)|(show (Addr.add _ _).block ≠ _;rw [add_block];exact hn176_2)|exact hn176_2) (.slice A174_2 ((rd_T47 l0_0 x13_1).f2).length c174_2)).trans hx176_0;replace hx176_1 := (cell_far (p := ⟨gb175, 2, none⟩) (by first|(rw [add_block];exact hn176_2)|(show (Addr.add _ _).block ≠ _;rw [add_block];exact hn176_2)|exact hn176_2) (.slice A174_2 ((rd_T47 l0_0 x13_1).f2).length c174_2)).trans hx176_1;clear hn176_0;clear hn176_1;clear hn176_2;replace p176 := eq_true p176;replace q176 := eq_true q176))
                go_roundg k1
                case measure => have := HK1.out;omega
                case rel => exact ⟨(wrap64 (x7_1 + (wrap64 ((((rd_T47 l0_0 x13_1).f2).length : Int) - (((rd_T47 l0_0 x13_1).f1).length : Int))))), (wrap64 (x13_1 + 1)), (by first|rfl|(simp only [i64_w, i32_w];done)|(simp only [i64_w, i32_w];rfl)|(simp;done)|(simp [*];done)), (by first|rfl|(simp only [i64_w, i32_w];done)|(simp only [i64_w, i32_w];rfl)|(simp;done)|(simp [*];done)), H', ⟨by have := HK1.out;omega⟩, ⟨kK⟩, ⟨eB⟩⟩
              · rw [if_neg c10] at H;have c10b0 : decide (((rd_T78 l1 x13_1).f1) < a2) = false := decide_eq_false c10;clear c10;have H' := Aside0.mk H;clear H;clear hi174_2 hl174_2;replace p174 := eq_true p174;replace q174 := eq_true q174
                go_wp2_with (first|((with_reducible refine gate_dst (N := 9) rfl ?_);refine bE 9 #[.int .i64 0, .slice none 0 0, .slice none 0 0] 47 ?_;intro gb175 hg w11 hbox hb;have BK175 := Aside0.mk (hbox);have GW175 := gBe HB hg;have GE175 := gBe HB hg;have NB173_175 := nL BK173 hg;have NB175_173 := nG BK173 hg;replace BK173 := lJ BK173 hb;replace HB := sBe HB hb;clear hb hbox hg;have hnb12 := NB175_173.out;have hnc12 := NB173_175.out;have hcz13_0 := hC BK175 0 (.int .i64 0);have hcz13_1 := hC BK175 1 (.slice none 0 0);have hcz13_2 := hC BK175 2 (.slice none 0 0);have hfz13_0 := blk_frozen BK175.out 0;have hfz13_1 := blk_frozen BK175.out 1;have hfz13_2 := blk_frozen BK175.out 2;have p176 : 0 ≤ (x13_1 : Int) := dA;have q176 : x13_1 < (l1.length : Int) := dA;obtain ⟨ad176, e176, hx176_0, hx176_1⟩ := at_T78 HR1.out x13_1 p176 q176;cases e176;have hn176_0 : ad176.block ≠ gb175 := Nat.ne_of_lt (Nat.lt_of_lt_of_le (by have := World.block_lt_of_cell? _ _ hx176_0;first|rwa [add_block] at this|exact this) GW175.out);have hn176_1 : ad176.block ≠ gb175 := Nat.ne_of_lt (Nat.lt_of_lt_of_le (by have := World.block_lt_of_cell? _ _ hx176_0;first|rwa [add_block] at this|exact this) GW175.out);have hn176_2 : ad176.block ≠ gb175 := Nat.ne_of_lt (Nat.lt_of_lt_of_le (by have := World.block_lt_of_cell? _ _ hx176_0;first|rwa [add_block] at this|exact this) GW175.out);replace hx176_0 := (hX HB hx176_0:);replace hx176_1 := (hX HB hx176_1:);replace hx176_0 := (cell_far (p := ⟨gb175, 0, none⟩) (by first|(rw [add_block];exact hn176_0)|(show (Addr.add _ _).block ≠ _;rw [add_block];exact hn176_0)|exact hn176_0) (.int .i64 ((rd_T47 l0_0 x13_1).f0))).trans hx176_0;replace hx176_1 := (cell_far (p := ⟨gb175, 0, none⟩) (by first|(rw [add_block];exact hn176_0)|(show (Addr.add _ _).block ≠ _;rw [add_block];exact hn176_0)|exact hn176_0) (.int .i64 ((rd_T47 l0_0 x13_1).f0))).trans hx176_1;replace hx176_0 := (cell_far (p := ⟨gb175, 1, none⟩) (by first|(rw [add_block];exact hn176_1)|(show (Addr.add _ _).block ≠ _;rw [add_block];exact hn176_1)|exact hn176_1) (.slice A174_1 ((rd_T47 l0_0 x13_1).f1).length c174_1)).trans hx176_0;replace hx176_1 := (cell_far (p := ⟨gb175, 1, none⟩) (by first|(rw [add_block];exact hn176_1)|(show (Addr.add _ _).block ≠ _;rw [add_block];exact hn176_1)|exact hn176_1) (.slice A174_1 ((rd_T47 l0_0 x13_1).f1).length c174_1)).trans hx176_1;replace hx176_0 := (cell_far (p := ⟨gb175, 2, none⟩) (by first|(rw [add_block];exact hn176_2)|(show (Addr.add _ _).block ≠ _;rw [add_block];exact hn176_2)|exact hn176_2) (.slice A174_2 ((rd_T47 l0_0 x13_1).f2).length c174_2)).trans hx176_0;replace hx176_1 := (cell_far (p := ⟨gb175, 2, none⟩) (by first|(rw [add_block];exact hn176_2)|(show (Addr.add _ _).block ≠ _;rw [add_block];exact hn176_2)|exact hn176_2) (.slice A174_2 ((rd_T47 l0_0 x13_1).f2).length c174_2)).trans hx176_1;clear hn176_0;clear hn176_1;clear hn176_2;replace p176 := eq_true p176;replace q176 := eq_true q176))
                go_roundg k1
                case measure => have := HK1.out;omega
                case rel => exact ⟨(x7_1), (wrap64 (x13_1 + 1)), (by first|rfl|(simp only [i64_w, i32_w];done)|(simp only [i64_w, i32_w];rfl)|(simp;done)|(simp [*];done)), (by first|rfl|(simp only [i64_w, i32_w];done)|(simp only [i64_w, i32_w];rfl)|(simp;done)|(simp [*];done)), H', ⟨by have := HK1.out;omega⟩, ⟨kK⟩, ⟨eB⟩⟩
            · rw [if_neg c9] at H;exact absurd H (by simp)
          · rw [if_neg c8] at H;exact absurd H (by simp)
        · rw [if_neg c7] at H;exact absurd H (by simp)
      · rw [if_neg c6] at H;have c6b0 : decide (x13_1 < (l0_0.length : Int)) = false := decide_eq_false c6;clear c6;obtain rfl := Option.some.inj H
        go_wp2
        go_ret
        exact ⟨rW, eB⟩

/-! ### commute_shifted: function 54 -/
def commute_shifted.l0 : Nat → List (S78) → Int → List (S47) → Int → Int → List (S47) → List (S47) → Option ((List (S47)))
  | 0, _, _, _, _, _, _, _ => none
  | k + 1, x2, x3, x13, x14, x15, x179000, x181000 => if x15 < x14 then (if 0 ≤ x15 then (if x15 < (x13.length : Int) then ((commute_growth.f k x179000 x2 ((rd_T47 x13 x15).f0)).bind fun t183 => ((textpatch_Moved.f ((rd_T47 x13 x15).f0) ((rd_T47 x13 x15).f1) ((rd_T47 x13 x15).f2) (wrap64 (((rd_T47 x13 x15).f0) + (wrap64 (x3 * t183))))).bind fun bt184 => (if x181000.length < 2513169434916 then (commute_shifted.l0 k x2 x3 x13 x14 (wrap64 (x15 + 1)) x179000 (x181000 ++ [(⟨bt184.1, bt184.2.1, bt184.2.2⟩ : S47)])) else (none)))) else (none)) else (none)) else (some x181000)
def commute_shifted.f (k : Nat) (l0_0 : List (S47)) (l1_0 : List (S47)) (l2 : List (S78)) (a3 : Int) : Option ((List (S47))) := commute_shifted.l0 k l2 a3 l0_0 (l0_0.length : Int) 0 l1_0 ([] : List (S47))
theorem commute_shifted.mono_l : ∀ k, (∀ y0 y1 y2 y3 y4 y5 y6, LeO (commute_shifted.l0 k y0 y1 y2 y3 y4 y5 y6) (commute_shifted.l0 (k + 1) y0 y1 y2 y3 y4 y5 y6))
  | 0 => fun _ _ _ _ _ _ _ r h => by simp [commute_shifted.l0] at h
  | k + 1 => by
    have ih0 := commute_shifted.mono_l k
    · intro y0 y1 y2 y3 y4 y5 y6
      unfold commute_shifted.l0
      repeat' first
      | (with_reducible exact ih0 _ _ _ _ _ _ _)
      | (with_reducible exact commute_growth.mono _ _ _ _)
      | (with_reducible exact LeO.refl _)
      | (with_reducible exact LeO.none _)
      | (with_reducible refine LeO.ite ?_ ?_)
      | (with_reducible refine LeO.bind ?_ (fun _ => ?_))
      | exact ih0 _ _ _ _ _ _ _
      | exact commute_growth.mono _ _ _ _
      | exact LeO.none _
      | refine LeO.ite ?_ ?_
      | refine LeO.bind ?_ (fun _ => ?_)
theorem commute_shifted.mono : ∀ a0 a1 a2 a3 k, LeO (commute_shifted.f k a0 a1 a2 a3) (commute_shifted.f (k + 1) a0 a1 a2 a3) := by
  intro a0 a1 a2 a3 k
  have ih0 := commute_shifted.mono_l k
  unfold commute_shifted.f
  repeat' first
      | (with_reducible exact ih0 _ _ _ _ _ _ _)
      | (with_reducible exact commute_growth.mono _ _ _ _)
      | (with_reducible exact LeO.refl _)
      | (with_reducible exact LeO.none _)
      | (with_reducible refine LeO.ite ?_ ?_)
      | (with_reducible refine LeO.bind ?_ (fun _ => ?_))
      | exact ih0 _ _ _ _ _ _ _
      | exact commute_growth.mono _ _ _ _
      | exact LeO.none _
      | refine LeO.ite ?_ ?_
      | refine LeO.bind ?_ (fun _ => ?_)
def commute_shifted.T5 : Bool × List (List Nat × List Nat) := (true, [([], []), ([0], [0]), ([], []), ([], []), ([3], [3]), ([], []), ([], []), ([], []), ([], []), ([8], [8]), ([6, 7, 9], [6, 7, 9]), ([5, 10], [5, 10]), ([4, 11], [4, 11]), ([2, 12, 10], [2, 12]), ([13], [13]), ([1, 14, 13], [1, 14]), ([0, 1, 2, 3, 4, 5, 6, 7, 8, 9, 10, 11, 12, 13, 14, 15], []), ([16, 15, 15, 0, 1, 2, 3, 4, 5, 6, 7, 8, 9, 10, 11, 12, 13, 14, 15], [15, 16])])
def commute_shifted.B5 : List Nat := [0, 1, 0, 0, 8, 0, 0, 0, 0, 256, 960, 2016, 4088, 8188, 16380, 32767, 65535, 131071]
theorem commute_shifted.tab5 : rtab .any (opsOf Try.f54 5) = commute_shifted.T5 := by kernel_rfl
theorem commute_shifted.bits5 : waitsOk commute_shifted.T5.2 commute_shifted.B5 = true := by kernel_rfl
set_option maxHeartbeats 8000000 in
set_option maxRecDepth 100000 in
theorem commute_shifted.calls (k : Nat) (A0_0 : Option Addr) (c0_0 : Nat) (l0_0 : List (S47)) (A1_0 : Option Addr) (c1_0 : Nat) (l1_0 : List (S47)) (A2 : Option Addr) (c2 : Nat) (l2 : List (S78)) (a3 : Int) (r : List (S47)) (w : World) (hr0_0 : Kd.C k47 w A0_0 l0_0.length l0_0) (hc0_0 : l0_0.length ≤ c0_0) (hr1_0 : Kd.C k47 w A1_0 l1_0.length l1_0) (hc1_0 : l1_0.length ≤ c1_0) (hr2 : Kd.C k78 w A2 l2.length l2) (hc2 : l2.length ≤ c2) (h : commute_shifted.f k l0_0 l1_0 l2 a3 = some r) :
    Calls Try.prog 54 #[.agg #[.slice A0_0 l0_0.length c0_0], .agg #[.slice A1_0 l1_0.length c1_0], .slice A2 l2.length c2, .int .i64 a3] w fun e w' => ∃ v0_ : Value, e = .returned (.agg #[v0_]) ∧ Kd.S k47 47 w' w.heap.size (fun _ => True) v0_ r ∧ Below w.heap.size w w' := by
  have hu24 := Try.underlying24;have hu47 := Try.underlying47;have HR0_0 := Aside0.mk hr0_0;have HC0_0 := Aside0.mk hc0_0;clear hr0_0 hc0_0;have HR1_0 := Aside0.mk hr1_0;have HC1_0 := Aside0.mk hc1_0;clear hr1_0 hc1_0;have HR2 := Aside0.mk hr2;have HC2 := Aside0.mk hc2;clear hr2 hc2;have HB := Aside0.mk (Below.refl w.heap.size w);have H : (commute_shifted.l0 k l2 a3 l0_0 (l0_0.length : Int) 0 l1_0 ([] : List (S47))) = some r := h;clear h;have H' := Aside0.mk H;clear H
  go_enter Try.func54, Try.ntmps54
  go_wp2_with (first|((with_reducible refine gate_dst (N := 4) rfl ?_);refine bE 4 #[.slice A0_0 l0_0.length c0_0] 24 ?_;intro gb177 hg w5 hbox hb;have BK177 := Aside0.mk (hbox);have GW177 := gBe HB hg;have GE177 := gBe HB hg;replace HB := sBe HB hb;clear hb hbox hg)|((with_reducible refine gate_dst (N := 5) rfl ?_);refine bE 5 #[.slice A1_0 l1_0.length c1_0] 24 ?_;intro gb178 hg w6 hbox hb;have BK178 := Aside0.mk (hbox);have GW178 := gBe HB hg;have GE178 := gBe HB hg;have NB177_178 := nL BK177 hg;have NB178_177 := nG BK177 hg;replace BK177 := lJ BK177 hb;replace HB := sBe HB hb;clear hb hbox hg)|((with_reducible refine gate_dst (N := 8) rfl ?_);refine bE 8 #[.slice none 0 0] 24 ?_;intro gb179 hg w7 hbox hb;have BK179 := Aside0.mk (hbox);have GW179 := gBe HB hg;have GE179 := gBe HB hg;have NB177_179 := nL BK177 hg;have NB179_177 := nG BK177 hg;have NB178_179 := nL BK178 hg;have NB179_178 := nG BK178 hg;replace BK177 := lJ BK177 hb;replace BK178 := lJ BK178 hb;replace HB := sBe HB hb;clear hb hbox hg)|((with_reducible refine gate_dst (N := 9) rfl ?_);refine bE 9 #[.slice none 0 0] 24 ?_;intro gb180 hg w8 hbox hb;have BK180 := Aside0.mk (hbox);have GW180 := gBe HB hg;have GE180 := gBe HB hg;have NB177_180 := nL BK177 hg;have NB180_177 := nG BK177 hg;have NB178_180 := nL BK178 hg;have NB180_178 := nG BK178 hg;have NB179_180 := nL BK179 hg;have NB180_179 := nG BK179 hg;replace BK177 := lJ BK177 hb;replace BK178 := lJ BK178 hb;replace BK179 := lJ BK179 hb;replace HB := sBe HB hb;clear hb hbox hg;have hnb9 := NB177_178.out;have hnc9 := NB178_177.out;have hnb10 := NB177_179.out;have hnc10 := NB179_177.out;have hnb11 := NB177_180.out;have hnc11 := NB180_177.out;have hcz12_0 := hC BK177 0 (.slice A0_0 l0_0.length c0_0);have hfz12_0 := blk_frozen BK177.out 0))
  go_loopg [15] k (fun kq v15 w' => ∃ (x15_1 : Int) (x181000_1 : List (S47)) (u181000 : Value), v15 = .int .i64 x15_1 ∧ Aside0 (commute_shifted.l0 kq l2 a3 l0_0 (l0_0.length : Int) x15_1 l1_0 x181000_1 = some r) ∧ Aside0 (kq ≤ k) ∧ Aside0 (Kd.S k47 47 w' w.heap.size (fun _ => True) u181000 x181000_1) ∧ Bk w' gb177 24 #[(.slice A0_0 l0_0.length c0_0)] ∧ Bk w' gb178 24 #[(.slice A1_0 l1_0.length c1_0)] ∧ Bk w' gb179 24 #[(.slice none 0 0)] ∧ Bk w' gb180 24 #[u181000] ∧ Aside0 (Below w.heap.size w w'))
  case atStart => exact ⟨(0), (([] : List (S47))), (.slice none 0 0), (by first|rfl|(simp only [i64_w, i32_w];done)|(simp only [i64_w, i32_w];rfl)|(simp;done)|(simp [*];done)), H', ⟨Nat.le_refl _⟩, ⟨by first|exact Kd.S_nil _ _ _ _ _|exact Kd.N_nil _ _ _ _ _|exact Kd.V_nil _ _ _ _ _|exact Kd.Q_nil _ _ _ _ _|exact Kd.R_nil _ _ _ _ _⟩, ⟨kK⟩, ⟨kK⟩, ⟨kK⟩, ⟨kK⟩, ⟨eB⟩⟩
  case round =>
    clear H'
    try clear c1
    try clear c2
    try clear p2
    try clear c5
    try clear c9
    try clear c10
    try clear c11
    try clear hcz12_0
    try clear hfz12_0
    obtain ⟨x15_1, x181000_1, u181000, rfl, HA, HK1, HO_181000, BK177, BK178, BK179, BK180, HB⟩ := hrel
    cases gk with
    | zero => exact absurd HA.out (by simp [commute_shifted.l0])
    | succ k1 =>
      have H := HA.out;clear HA;simp only [commute_shifted.l0] at H
      by_cases c13 : x15_1 < (l0_0.length : Int)
      · rw [if_pos c13] at H;have c13b0 : decide (x15_1 < (l0_0.length : Int)) = true := decide_eq_true c13;clear c13
        by_cases c14 : 0 ≤ x15_1
        · rw [if_pos c14] at H;have c14b0 : decide (0 ≤ x15_1) = true := decide_eq_true c14;clear c14
          by_cases c15 : x15_1 < (l0_0.length : Int)
          · rw [if_pos c15] at H;have c15b0 : decide (x15_1 < (l0_0.length : Int)) = true := decide_eq_true c15;clear c15;replace H := Option.bind_eq_some_iff.mp H;obtain ⟨t183, A160, H⟩ := H;replace H : ((textpatch_Moved.f ((rd_T47 l0_0 x15_1).f0) ((rd_T47 l0_0 x15_1).f1) ((rd_T47 l0_0 x15_1).f2) (wrap64 (((rd_T47 l0_0 x15_1).f0) + (wrap64 (a3 * t183))))).bind fun bt184 => (if x181000_1.length < 2513169434916 then (commute_shifted.l0 k1 l2 a3 l0_0 (l0_0.length : Int) (wrap64 (x15_1 + 1)) l1_0 (x181000_1 ++ [(⟨bt184.1, bt184.2.1, bt184.2.2⟩ : S47)])) else (none))) = some r := H;have A16 := Aside0.mk A160;clear A160;replace H := Option.bind_eq_some_iff.mp H;obtain ⟨⟨t184, t185, t188⟩, A170, H⟩ := H;replace H : (if x181000_1.length < 2513169434916 then (commute_shifted.l0 k1 l2 a3 l0_0 (l0_0.length : Int) (wrap64 (x15_1 + 1)) l1_0 (x181000_1 ++ [(⟨t184, t185, t188⟩ : S47)])) else (none)) = some r := H;have A17 := Aside0.mk A170;clear A170
            by_cases c18 : x181000_1.length < 2513169434916
            · rw [if_pos c18] at H;have LMc18 := Aside0.mk c18;clear c18;obtain ⟨y191, hy191⟩ : ∃ y_ : List (S47), y_ = (x181000_1 ++ [(⟨t184, t185, t188⟩ : S47)]) := ⟨_, rfl⟩;replace H : (commute_shifted.l0 k1 l2 a3 l0_0 (l0_0.length : Int) (wrap64 (x15_1 + 1)) l1_0 y191) = some r := (by first|(rw [hy191];with_reducible exact H)|(have H2_ := (Option.bind_some _ _).symm.trans H;rw [hy191];with_reducible exact H2_)|(have H2_ := (Option.bind_some _ _).symm.trans H;with_reducible exact H2_)|with_reducible exact H|(rw [hy191];exact H)|exact H);have Ny191 := Aside0.mk hy191;clear hy191;have H' := Aside0.mk H;clear H;have p181 : 0 ≤ (x15_1 : Int) := dA;have q181 : x15_1 < (l0_0.length : Int) := dA;obtain ⟨ad181, A181_1, c181_1, A181_2, c181_2, e181, hx181_0, hx181_1, hx181_2, hl181_1, hi181_1, hl181_2, hi181_2⟩ := at_T47 HR0_0.out x15_1 p181 q181
              cases e181
              replace hx181_0 := (hX HB hx181_0:);replace hx181_1 := (hX HB hx181_1:);replace hx181_2 := (hX HB hx181_2:);have HR181_1 := Aside0.mk hi181_1;have HC181_1 := Aside0.mk hl181_1;clear hi181_1 hl181_1;have HR181_2 := Aside0.mk hi181_2;have HC181_2 := Aside0.mk hl181_2;clear hi181_2 hl181_2;replace p181 := eq_true p181;replace q181 := eq_true q181
              try go_wp2_with (first|((with_reducible refine gate_dst (N := 11) rfl ?_);refine bE 11 #[.int .i64 0, .slice none 0 0, .slice none 0 0] 47 ?_;intro gb182 hg w19 hbox hb;have BK182 := Aside0.mk (hbox);have GW182 := gBe HB hg;have GE182 := gBe HB hg;have NB177_182 := nL BK177 hg;have NB182_177 := nG BK177 hg;have NB178_182 := nL BK178 hg;have NB182_178 := nG BK178 hg;have NB179_182 := nL BK179 hg;have NB182_179 := nG BK179 hg;have NB180_182 := nL BK180 hg;have NB182_180 := nG BK180 hg;replace HO_181000 := Aside0.mk (Kd.S_below (Kd.S_elderB (sK HO_181000) gb182 (Nat.le_of_eq hg.symm)) hb);replace BK177 := lJ BK177 hb;replace BK178 := lJ BK178 hb;replace BK179 := lJ BK179 hb;replace BK180 := lJ BK180 hb;replace HB := sBe HB hb;clear hb hbox hg;have hnb20 := NB182_177.out;have hnc20 := NB177_182.out;have hnb21 := NB182_178.out;have hnc21 := NB178_182.out;have hnb22 := NB182_179.out;have hnc22 := NB179_182.out;have hnb23 := NB182_180.out;have hnc23 := NB180_182.out;have hcz24_0 := hC BK182 0 (.int .i64 0);have hcz24_1 := hC BK182 1 (.slice none 0 0);have hcz24_2 := hC BK182 2 (.slice none 0 0);have hfz24_0 := blk_frozen BK182.out 0;have hfz24_1 := blk_frozen BK182.out 1;have hfz24_2 := blk_frozen BK182.out 2))
              obtain ⟨w25, hW_⟩ : ∃ w_, w_ = (((w19.setCell ⟨gb182, 0, none⟩ (.int .i64 ((rd_T47 l0_0 x15_1).f0))).setCell ⟨gb182, 1, none⟩ (.slice A181_1 ((rd_T47 l0_0 x15_1).f1).length c181_1)).setCell ⟨gb182, 2, none⟩ (.slice A181_2 ((rd_T47 l0_0 x15_1).f2).length c181_2)) := ⟨_, rfl⟩;have n0_ : Aside0 (Kd.S k47 47 w25 w.heap.size (fun k_ => k_ ≠ gb182) u181000 x181000_1) := ⟨by rw [hW_];(with_reducible repeat (first|apply Kd.S_alloc|apply Kd.S_drewN|apply Kd.S_drew));exact Kd.S_mono (Kd.S_far (p := ⟨gb182, 2, none⟩) (Kd.S_far (p := ⟨gb182, 1, none⟩) (Kd.S_far (p := ⟨gb182, 0, none⟩) (Kd.S_mono HO_181000.out (fun k_ hk => (⟨hk, hk.2⟩ : _ ∧ k_ ≠ gb182))) (fun _ hk => hk.2) (.int .i64 ((rd_T47 l0_0 x15_1).f0))) (fun _ hk => hk.2) (.slice A181_1 ((rd_T47 l0_0 x15_1).f1).length c181_1)) (fun _ hk => hk.2) (.slice A181_2 ((rd_T47 l0_0 x15_1).f2).length c181_2)) (fun _ hk => hk.1.2)⟩;have n1_ : Bk w25 gb177 24 #[.slice (some ad181) l0_0.length c0_0] := ⟨by rw [hW_];exact kK⟩;have n2_ : Bk w25 gb178 24 #[.slice A1_0 l1_0.length c1_0] := ⟨by rw [hW_];exact kK⟩;have n3_ : Bk w25 gb179 24 #[.slice none 0 0] := ⟨by rw [hW_];exact kK⟩;have n4_ : Bk w25 gb180 24 #[u181000] := ⟨by rw [hW_];exact kK⟩;have n5_ : Bk w25 gb182 47 #[.int .i64 ((rd_T47 l0_0 x15_1).f0), .slice A181_1 ((rd_T47 l0_0 x15_1).f1).length c181_1, .slice A181_2 ((rd_T47 l0_0 x15_1).f2).length c181_2] := ⟨by rw [hW_];exact kK⟩;have n6_ : Aside0 (Below w.heap.size w w25) := ⟨by rw [hW_];exact eB⟩;(try clear HO_181000);(try clear BK177);(try clear BK178);(try clear BK179);(try clear BK180);(try clear BK182);(try clear HB);(try rw [← hW_]);clear hW_;have HO_181000 := n0_;have BK177 := n1_;have BK178 := n2_;have BK179 := n3_;have BK180 := n4_;have BK182 := n5_;have HB := n6_;clear n0_ n1_ n2_ n3_ n4_ n5_ n6_;replace HO_181000 := Aside0.mk (Kd.S_drew HO_181000.out);replace BK177 := Aside0.mk (blk_drew BK177.out);replace BK178 := Aside0.mk (blk_drew BK178.out);replace BK179 := Aside0.mk (blk_drew BK179.out);replace BK180 := Aside0.mk (blk_drew BK180.out);replace BK182 := Aside0.mk (blk_drew BK182.out);replace HB := Aside0.mk (below_drew1 HB.out);refine start_ (n := 18) (S := fun w' => w'.cell? ⟨gb180, 0, none⟩ = some (u181000) ∧ w'.cell? ⟨gb182, 0, none⟩ = some (.int .i64 ((rd_T47 l0_0 x15_1).f0)) ∧ w'.cell? ⟨gb182, 1, none⟩ = some (.slice A181_1 ((rd_T47 l0_0 x15_1).f1).length c181_1) ∧ w'.cell? ⟨gb182, 2, none⟩ = some (.slice A181_2 ((rd_T47 l0_0 x15_1).f2).length c181_2) ∧ w'.cell? ⟨gb178, 0, none⟩ = some (.slice A1_0 l1_0.length c1_0)) (ds := [17]) (mb 18 0) (by kernel_rfl) rfl (by kernel_rfl) ⟨(blk_cell BK180.out 0).trans rfl, (blk_cell BK182.out 0).trans rfl, (blk_cell BK182.out 1).trans rfl, (blk_cell BK182.out 2).trans rfl, (blk_cell BK178.out 0).trans rfl⟩ (fun hHeld => ?_);refine with_tabW commute_shifted.tab5 commute_shifted.bits5 (fun HT_ HW_ => ?_);generalize w25.drew = w26 at HO_181000 BK177 BK178 BK179 BK180 BK182 HB hHeld ⊢;refine pA 0 19 (mb 18 1) HT_ rfl rfl ?_;refine pA 3 22 (mb 18 9) HT_ rfl rfl ?_;refine pA 5 24 (mb 18 41) HT_ rfl rfl ?_;refine pA 7 26 (mb 18 169) HT_ rfl rfl ?_;refine pA 8 27 (mb 18 425) HT_ rfl rfl ?_;refine tA 1 20 (mb 18 427) HT_ HW_ hHeld rfl rfl (by rintro w' ⟨s0, s1, s2, s3, s4⟩;go_simp;with_reducible rfl) ?_;refine tA 2 21 (mb 18 431) HT_ HW_ hHeld rfl rfl (by rintro w' ⟨s0, s1, s2, s3, s4⟩;go_simp;with_reducible rfl) ?_;refine tA 4 23 (mb 18 447) HT_ HW_ hHeld rfl rfl (by rintro w' ⟨s0, s1, s2, s3, s4⟩;go_simp;with_reducible rfl) ?_;refine tA 6 25 (mb 18 511) HT_ HW_ hHeld rfl rfl (by rintro w' ⟨s0, s1, s2, s3, s4⟩;go_simp;with_reducible rfl) ?_;refine tA 9 28 (mb 18 1023) HT_ HW_ hHeld rfl rfl (by rintro w' ⟨s0, s1, s2, s3, s4⟩;go_simp;with_reducible rfl) ?_;refine one_ (i := 10) (N := some 29) (mb 18 2047) rfl rfl (one_of HT_.out (by kernel_rfl)) (by decide) (fun K hK => ?_);refine goes_ Try.func66 (by kernel_rfl) rfl #[.agg #[.slice A1_0 l1_0.length c1_0], .slice A2 l2.length c2, .int .i64 ((rd_T47 l0_0 x15_1).f0)] (by rfl) rfl rfl mA ?_
              with_reducible refine (commute_growth.calls k1 _ _ l1_0 _ _ l2 ((rd_T47 l0_0 x15_1).f0) t183 _ ?side1 ?side2 ?side3 ?side4 A16.out).mono ?_
              (case side1 => exact cBe HR1_0);(case side2 => exact HC1_0.out);(case side3 => exact cBe HR2);(case side4 => exact HC2.out)
              rintro e w27 ⟨rfl, hb⟩
              refine ⟨_, rfl, ?_⟩;replace HO_181000 := Aside0.mk (Kd.S_below (sK HO_181000) hb);replace BK177 := lJ BK177 hb;replace BK178 := lJ BK178 hb;replace BK179 := lJ BK179 hb;replace BK180 := lJ BK180 hb;replace BK182 := lJ BK182 hb;replace HB := sBe HB hb;(try clear hb);refine hK.out _ _ ⟨(blk_cell BK180.out 0).trans rfl, (blk_cell BK182.out 0).trans rfl, (blk_cell BK182.out 1).trans rfl, (blk_cell BK182.out 2).trans rfl, (blk_cell BK178.out 0).trans rfl⟩ (fun hHeld => ?_);clear hK K;refine nmA (some 29) ?_;refine pA 11 30 (mb 18 4095) HT_ rfl rfl ?_;refine pA 12 31 (mb 18 8191) HT_ rfl rfl ?_;refine one_ (i := 13) (N := some 32) (mb 18 16383) rfl rfl (one_of HT_.out (by kernel_rfl)) (by decide) (fun K hK => ?_);refine goes_ Try.func65 (by kernel_rfl) rfl #[.agg #[.int .i64 ((rd_T47 l0_0 x15_1).f0), .slice A181_1 ((rd_T47 l0_0 x15_1).f1).length c181_1, .slice A181_2 ((rd_T47 l0_0 x15_1).f2).length c181_2], .int .i64 (wrap64 (((rd_T47 l0_0 x15_1).f0) + (wrap64 (a3 * t183))))] (by rfl) rfl rfl mA ?_
              with_reducible refine (textpatch_Moved.calls ((rd_T47 l0_0 x15_1).f0) _ _ ((rd_T47 l0_0 x15_1).f1) _ _ ((rd_T47 l0_0 x15_1).f2) (wrap64 (((rd_T47 l0_0 x15_1).f0) + (wrap64 (a3 * t183)))) t184 t185 t188 _ ?side1 ?side2 ?side3 ?side4 A17.out).mono ?_
              (case side1 => exact cBe HR181_1);(case side2 => exact HC181_1.out);(case side3 => exact cBe HR181_2);(case side4 => exact HC181_2.out)
              rintro e w28 ⟨v186, v189, rfl, ho0, ho1, hb⟩
              refine ⟨_, rfl, ?_⟩;have HO187 := Aside0.mk (Kd.R_lower ho0 (below_size eB));have HO190 := Aside0.mk (Kd.R_lower ho1 (below_size eB));replace HO_181000 := Aside0.mk (Kd.S_mono (Kd.S_told (Kd.S_told (Kd.S_old (sK HO_181000) hb) (Kd.R_base ho0)) (Kd.R_base ho1)) (fun _ h_ => h_.1));replace BK177 := lJ BK177 hb;replace BK178 := lJ BK178 hb;replace BK179 := lJ BK179 hb;replace BK180 := lJ BK180 hb;replace BK182 := lJ BK182 hb;replace HB := sBe HB hb;(try clear hb ho0 ho1);obtain ⟨Ao30, co30, eo30⟩ := Kd.R_slice HO187.out
              (first|subst eo30|(injection eo30 with f1_ f2_ f3_;have f4_ := f1_.symm;have f5_ := f3_.symm;clear f1_ f2_ f3_;subst f4_;subst f5_))
              obtain ⟨Ao31, co31, eo31⟩ := Kd.R_slice HO190.out
              (first|subst eo31|(injection eo31 with f1_ f2_ f3_;have f4_ := f1_.symm;have f5_ := f3_.symm;clear f1_ f2_ f3_;subst f4_;subst f5_))
              refine hK.out _ _ ⟨(blk_cell BK180.out 0).trans rfl, (blk_cell BK182.out 0).trans rfl, (blk_cell BK182.out 1).trans rfl, (blk_cell BK182.out 2).trans rfl, (blk_cell BK178.out 0).trans rfl⟩ (fun hHeld => ?_);clear hK K;refine nmA (some 32) ?_;refine one_ (i := 14) (N := some 33) (mb 18 32767) rfl rfl (one_of HT_.out (by kernel_rfl)) (by decide) (fun K hK => ?_);refine value_ (w1 := ?_) (v := ?_) (by rfl) rfl ?_ ?_;rotate_left 2
              · go_simp
                constructor
                · rfl
                · rfl
              refine hK.out _ _ ⟨(blk_cell (blk_alloc BK180.out _) 0).trans rfl, (blk_cell (blk_alloc BK182.out _) 0).trans rfl, (blk_cell (blk_alloc BK182.out _) 1).trans rfl, (blk_cell (blk_alloc BK182.out _) 2).trans rfl, (blk_cell (blk_alloc BK178.out _) 0).trans rfl⟩ (fun hHeld => ?_);clear hK K;refine nmA (some 33) ?_;refine one_ (i := 15) (N := some 34) (mb 18 65535) rfl rfl (one_of HT_.out (by kernel_rfl)) (by decide) (fun K hK => ?_);refine Kd.S_append_step k47 (w0 := w) w.heap.size (by rfl) (.tmp 20) (.tmp 33) 22 47 (.agg #[(.int .i64 0), (.slice none 0 0), (.slice none 0 0)]) 56 rfl Try.underlying22 info47 rfl (by decide) (by omega) u181000 x181000_1 (⟨t184, t185, t188⟩ : S47) [.int .i64 t184, .slice Ao30 t185.length co30, .slice Ao31 t188.length co31] (fun k_ => k_ ≠ gb182) (fun k_ => some k_ = ob Ao30 t185.length co30 ∨ some k_ = ob Ao31 t188.length co31) rfl rfl ?aP (fun k_ hk_ => hk_.elim (fun h_ => ((Kd.R_mono (ok' := fun k_ => ((fun k_ => k_ ≠ gb182)) k_ ∧ some k_ ≠ (u181000 : Value).ownBlock) (Kd.R_types (Kd.R_apart' (HO187.out) (Kd.S_typed HO_181000.out) (by decide)) BK182.out (by decide)) (fun k_ hk => ⟨hk.2, hk.1.2⟩))).1 k_ h_.symm) (fun h_ => ((Kd.R_mono (ok' := fun k_ => ((fun k_ => k_ ≠ gb182)) k_ ∧ some k_ ≠ (u181000 : Value).ownBlock) (Kd.R_types (Kd.R_apart' (HO190.out) (Kd.S_typed HO_181000.out) (by decide)) BK182.out (by decide)) (fun k_ hk => ⟨hk.2, hk.1.2⟩))).1 k_ h_.symm)) ?aF ?aO ?aB ?aS ?aL ?_;(case aP => exact k47_mkM _ _ _ (⟨t184, t185, t188⟩ : S47) (Kd.R_mono (Kd.R_tight rfl (Kd.R_mono (ok' := fun k_ => ((fun k_ => k_ ≠ gb182)) k_ ∧ some k_ ≠ (u181000 : Value).ownBlock) (Kd.R_types (Kd.R_apart' (HO187.out) (Kd.S_typed HO_181000.out) (by decide)) BK182.out (by decide)) (fun k_ hk => ⟨hk.2, hk.1.2⟩))) (fun _ h_ => Or.inl h_)) (Kd.R_mono (Kd.R_tight rfl (Kd.R_mono (ok' := fun k_ => ((fun k_ => k_ ≠ gb182)) k_ ∧ some k_ ≠ (u181000 : Value).ownBlock) (Kd.R_types (Kd.R_apart' (HO190.out) (Kd.S_typed HO_181000.out) (by decide)) BK182.out (by decide)) (fun k_ hk => ⟨hk.2, hk.1.2⟩))) (fun _ h_ => Or.inr (h_))));(case aB => exact eB);(case aF => exact (fun k_ hk => Kd.freshB (g := gb182) (o := .cells #[.int .i64 ((rd_T47 l0_0 x15_1).f0), .slice A181_1 ((rd_T47 l0_0 x15_1).f1).length c181_1, .slice A181_2 ((rd_T47 l0_0 x15_1).f2).length c181_2] 47 (0, 0)) kK k_ hk));(case aO => exact (sM HO_181000 (fun k_ hk => ⟨hk.1.1, fun e_ => e_.elim (fun h_ => hk.1.2 h_) (fun h_ => hk.2 h_)⟩)));(case aS => exact (below_size eB));(case aL => have := LMc18.out;omega)
              intro v192 w29 ho hb hg hat
              rw [← Ny191.out] at ho;have n0_ := Aside0.mk (blk_grown (g := gb177) (o := .cells #[.slice (some ad181) l0_0.length c0_0] 24 (0, 0)) kK hg (Kd.S_ne HO_181000.out BK177.out (by decide)));have n1_ := Aside0.mk (blk_grown (g := gb178) (o := .cells #[.slice A1_0 l1_0.length c1_0] 24 (0, 0)) kK hg (Kd.S_ne HO_181000.out BK178.out (by decide)));have n2_ := Aside0.mk (blk_grown (g := gb179) (o := .cells #[.slice none 0 0] 24 (0, 0)) kK hg (Kd.S_ne HO_181000.out BK179.out (by decide)));have n3_ := Aside0.mk (blk_grown (g := gb180) (o := .cells #[u181000] 24 (0, 0)) kK hg (Kd.S_ne HO_181000.out BK180.out (by decide)));have n4_ := Aside0.mk (blk_grown (g := gb182) (o := .cells #[.int .i64 ((rd_T47 l0_0 x15_1).f0), .slice A181_1 ((rd_T47 l0_0 x15_1).f1).length c181_1, .slice A181_2 ((rd_T47 l0_0 x15_1).f2).length c181_2] 47 (0, 0)) kK hg (Kd.S_away HO_181000.out (fun _ hk => hk.1.1)));have n5_ := Aside0.mk (hb);have n6_ := Aside0.mk (ho);clear BK177;clear BK178;clear BK179;clear BK180;clear BK182;clear HB;clear HO_181000;clear HO187;clear HO190;have BK177 := n0_;have BK178 := n1_;have BK179 := n2_;have BK180 := n3_;have BK182 := n4_;have HB := n5_;have HO193 := n6_;clear n0_ n1_ n2_ n3_ n4_ n5_ n6_;clear ho hb hg hat;obtain ⟨Ao32, co32, eo32⟩ := Kd.S_slice HO193.out
              (first|subst eo32|(injection eo32 with f1_ f2_ f3_;have f4_ := f1_.symm;have f5_ := f3_.symm;clear f1_ f2_ f3_;subst f4_;subst f5_))
              refine hK.out _ _ ⟨(blk_cell BK180.out 0).trans rfl, (blk_cell BK182.out 0).trans rfl, (blk_cell BK182.out 1).trans rfl, (blk_cell BK182.out 2).trans rfl, (blk_cell BK178.out 0).trans rfl⟩ (fun hHeld => ?_);clear hK K;refine nmA (some 34) ?_;refine pA 16 35 (mb 18 131071) HT_ rfl rfl ?_;refine last_ (i := 17) (N := none) (mb 18 262143) rfl rfl (one_of HT_.out (by kernel_rfl)) (by decide) (fun K hK => ?_);have hs33 : w29.cell? ⟨gb180, 0, none⟩ = some (u181000) := (blk_cell BK180.out 0).trans rfl;have hfs33 := blk_frozen BK180.out 0;have := NB177_180.out;have := NB178_180.out;have := NB179_180.out;have := NB182_180.out;have := NB180_177.out;have := NB180_178.out;have := NB180_179.out;have := NB180_182.out;refine skip_ (w1 := ?_) (by rfl) rfl ?_ ?_;rotate_left
              · go_simp
                rfl
              refine hK.out _ _ ?_;clear hK K;refine done_ (done_of HT_.out (by kernel_rfl)) ?_
              try go_wp2
              go_roundg k1
              case measure => have := HK1.out;omega
              case rel => exact ⟨(wrap64 (x15_1 + 1)), (y191), (.slice Ao32 y191.length co32), (by first|rfl|(simp only [i64_w, i32_w];done)|(simp only [i64_w, i32_w];rfl)|(simp;done)|(simp [*];done)), H', ⟨by have := HK1.out;omega⟩, ⟨by (with_reducible repeat (first|apply Kd.S_alloc|apply Kd.S_drewN|apply Kd.S_drew));exact Kd.S_mono (Kd.S_far (p := ⟨gb180, 0, none⟩) (Kd.S_types HO193.out BK180.out (by decide)) (fun _ hk => hk.2) (.slice Ao32 y191.length co32)) (fun _ hk => trivial)⟩, ⟨kK⟩, ⟨kK⟩, ⟨kK⟩, ⟨kK⟩, ⟨eB⟩⟩
            · rw [if_neg c18] at H;exact absurd H (by simp)
          · rw [if_neg c15] at H;exact absurd H (by simp)
        · rw [if_neg c14] at H;exact absurd H (by simp)
      · rw [if_neg c13] at H;have c13b0 : decide (x15_1 < (l0_0.length : Int)) = false := decide_eq_false c13;clear c13;obtain rfl := Option.some.inj H;have hnb34 := NB180_177.out;have hnc34 := NB177_180.out;have hnb35 := NB180_178.out;have hnc35 := NB178_180.out;have hnb36 := NB180_179.out;have hnc36 := NB179_180.out;have hcz37_0 : wr.cell? ⟨gb180, 0, none⟩ = some (u181000) := (blk_cell BK180.out 0).trans rfl;have hfz37_0 := blk_frozen BK180.out 0;obtain ⟨Ao38, co38, eo38⟩ := Kd.S_slice HO_181000.out;subst eo38;have hnb39 := NB179_177.out;have hnc39 := NB177_179.out;have hnb40 := NB179_178.out;have hnc40 := NB178_179.out;have hcz41_0 : wr.cell? ⟨gb179, 0, none⟩ = some (.slice none 0 0) := (blk_cell BK179.out 0).trans rfl;have hfz41_0 := blk_frozen BK179.out 0
        go_wp2
        refine bodyPost_ret (results_cell_row rfl _ _ gb179 24 #[.slice Ao38 x181000_1.length co38] (0, 0) _ rfl kK Try.underlying24 rfl (by kernel_rfl)) rfl ?_;exact ⟨_, rW, by (with_reducible repeat (first|apply Kd.S_alloc|apply Kd.S_drewN|apply Kd.S_drew));exact Kd.S_mono (Kd.S_far (p := ⟨gb179, 0, none⟩) (Kd.S_types HO_181000.out BK179.out (by decide)) (fun _ hk => hk.2) (.slice Ao38 x181000_1.length co38)) (fun _ hk => trivial), eB⟩

end Go.Proofs.Ytdnnkhogpobjbaa.PZ
