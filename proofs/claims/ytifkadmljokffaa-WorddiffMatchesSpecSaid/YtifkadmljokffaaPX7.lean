/- Printed by a program of this session out of the translation: Lean functions for Go functions, and proofs that the Go functions answer the same. -/
import Derived.Test.YtifkadmljokffaaPX0
import Derived.Test.YtifkadmljokffaaPX1
import Derived.Test.YtifkadmljokffaaPX2
import Derived.Test.YtifkadmljokffaaPX3
import Derived.Test.YtifkadmljokffaaPX4
import Derived.Test.YtifkadmljokffaaPX5
import Derived.Test.YtifkadmljokffaaPX6
namespace Go.Proofs.Ytifkadmljokffaa.PX
open Go.RowKit Go.Proofs.Ytifkadmljokffaa.Pre Go.Proofs.YtifkadmljokffaaW.PrintWords Go.Proofs.YtifkadmljokffaaW.PrintLast Go.Proofs.YtifkadmljokffaaW.PrintMore
attribute [local go_sem] max2_int min2_int max_two min_two max_three min_three max_four min_four   -- for this text's walks alone
set_option linter.unusedVariables false
set_option linter.unusedSimpArgs false

attribute [local go_sem high] eqA24 eqA95
/-! ### changeforgeref1_Highlight: function 38 -/
mutual
def changeforgeref1_Highlight.l0 : Nat → List (S79) → List Bool → List Bool → Int → Option ((List (S95)) × (List (S95)))
  | 0, _, _, _, _ => none
  | k + 1, x6, x7, x8, x9 => if x9 < (x6.length : Int) then (changeforgeref1_Highlight.l1 k x6 x7 x8 x9 0) else ((changeforgeref1_ranges.f k x7).bind fun t204 => ((changeforgeref1_ranges.f k x8).bind fun t207 => (some (t204, t207))))
def changeforgeref1_Highlight.l1 : Nat → List (S79) → List Bool → List Bool → Int → Int → Option ((List (S95)) × (List (S95)))
  | 0, _, _, _, _, _ => none
  | k + 1, x6, x7, x8, x9, x10 => if 0 ≤ x9 then (if x9 < (x6.length : Int) then (if x10 < (((rd_T79 x6 x9).f1).size : Int) then (if ((rd_T79 x6 x9).f0) = 2 then (if ((rd_T79 x6 x9).f0) = 1 then (changeforgeref1_Highlight.l1 k x6 x7 x8 x9 (wrap64 (x10 + 1))) else (if x8.length < 140737488355328 then (changeforgeref1_Highlight.l1 k x6 x7 (x8 ++ [(((rd_T79 x6 x9).f0) == 2)]) x9 (wrap64 (x10 + 1))) else (none))) else (if x7.length < 140737488355328 then ((some (x7 ++ [(((rd_T79 x6 x9).f0) == 1)] : List Bool)).bind fun y218 => (if ((rd_T79 x6 x9).f0) = 1 then (changeforgeref1_Highlight.l1 k x6 y218 x8 x9 (wrap64 (x10 + 1))) else (if x8.length < 140737488355328 then (changeforgeref1_Highlight.l1 k x6 y218 (x8 ++ [(((rd_T79 x6 x9).f0) == 2)]) x9 (wrap64 (x10 + 1))) else (none)))) else (none))) else (changeforgeref1_Highlight.l0 k x6 x7 x8 (wrap64 (x9 + 1)))) else (none)) else (none)
end
def changeforgeref1_Highlight.f (k : Nat) (a0 : ByteArray) (a1 : ByteArray) : Option ((List (S95)) × (List (S95))) := (changeforgeref1_Tokens.f k a0).bind fun t195 => ((changeforgeref1_Tokens.f k a1).bind fun t198 => ((changeforgeref1_Align.f k t195 t198).bind fun t201 => (changeforgeref1_Highlight.l0 k t201 ([] : List Bool) ([] : List Bool) 0)))
theorem changeforgeref1_Highlight.mono_l : ∀ k, (∀ y0 y1 y2 y3, LeO (changeforgeref1_Highlight.l0 k y0 y1 y2 y3) (changeforgeref1_Highlight.l0 (k + 1) y0 y1 y2 y3)) ∧ (∀ y0 y1 y2 y3 y4, LeO (changeforgeref1_Highlight.l1 k y0 y1 y2 y3 y4) (changeforgeref1_Highlight.l1 (k + 1) y0 y1 y2 y3 y4))
  | 0 => ⟨fun _ _ _ _ r h => by simp [changeforgeref1_Highlight.l0] at h, fun _ _ _ _ _ r h => by simp [changeforgeref1_Highlight.l1] at h⟩
  | k + 1 => by
    obtain ⟨ih0, ih1⟩ := changeforgeref1_Highlight.mono_l k;refine ⟨?_, ?_⟩
    · intro y0 y1 y2 y3
      unfold changeforgeref1_Highlight.l0
      repeat' first
      | (with_reducible exact ih0 _ _ _ _)
      | (with_reducible exact ih1 _ _ _ _ _)
      | (with_reducible exact changeforgeref1_Align.mono _ _ _)
      | (with_reducible exact changeforgeref1_Tokens.mono _ _)
      | (with_reducible exact changeforgeref1_ranges.mono _ _)
      | (with_reducible exact LeO.refl _)
      | (with_reducible exact LeO.none _)
      | (with_reducible refine LeO.ite ?_ ?_)
      | (with_reducible refine LeO.bind ?_ (fun _ => ?_))
      | exact ih0 _ _ _ _
      | exact ih1 _ _ _ _ _
      | exact changeforgeref1_Align.mono _ _ _
      | exact changeforgeref1_Tokens.mono _ _
      | exact changeforgeref1_ranges.mono _ _
      | exact LeO.none _
      | refine LeO.ite ?_ ?_
      | refine LeO.bind ?_ (fun _ => ?_)
    · intro y0 y1 y2 y3 y4
      unfold changeforgeref1_Highlight.l1
      repeat' first
      | (with_reducible exact ih0 _ _ _ _)
      | (with_reducible exact ih1 _ _ _ _ _)
      | (with_reducible exact changeforgeref1_Align.mono _ _ _)
      | (with_reducible exact changeforgeref1_Tokens.mono _ _)
      | (with_reducible exact changeforgeref1_ranges.mono _ _)
      | (with_reducible exact LeO.refl _)
      | (with_reducible exact LeO.none _)
      | (with_reducible refine LeO.ite ?_ ?_)
      | (with_reducible refine LeO.bind ?_ (fun _ => ?_))
      | exact ih0 _ _ _ _
      | exact ih1 _ _ _ _ _
      | exact changeforgeref1_Align.mono _ _ _
      | exact changeforgeref1_Tokens.mono _ _
      | exact changeforgeref1_ranges.mono _ _
      | exact LeO.none _
      | refine LeO.ite ?_ ?_
      | refine LeO.bind ?_ (fun _ => ?_)
theorem changeforgeref1_Highlight.mono : ∀ a0 a1 k, LeO (changeforgeref1_Highlight.f k a0 a1) (changeforgeref1_Highlight.f (k + 1) a0 a1) := by
  intro a0 a1 k
  obtain ⟨ih0, ih1⟩ := changeforgeref1_Highlight.mono_l k
  unfold changeforgeref1_Highlight.f
  repeat' first
      | (with_reducible exact ih0 _ _ _ _)
      | (with_reducible exact ih1 _ _ _ _ _)
      | (with_reducible exact changeforgeref1_Align.mono _ _ _)
      | (with_reducible exact changeforgeref1_Tokens.mono _ _)
      | (with_reducible exact changeforgeref1_ranges.mono _ _)
      | (with_reducible exact LeO.refl _)
      | (with_reducible exact LeO.none _)
      | (with_reducible refine LeO.ite ?_ ?_)
      | (with_reducible refine LeO.bind ?_ (fun _ => ?_))
      | exact ih0 _ _ _ _
      | exact ih1 _ _ _ _ _
      | exact changeforgeref1_Align.mono _ _ _
      | exact changeforgeref1_Tokens.mono _ _
      | exact changeforgeref1_ranges.mono _ _
      | exact LeO.none _
      | refine LeO.ite ?_ ?_
      | refine LeO.bind ?_ (fun _ => ?_)
set_option maxHeartbeats 8000000 in
set_option maxRecDepth 100000 in
theorem changeforgeref1_Highlight.calls (k : Nat) (a0 : ByteArray) (a1 : ByteArray) (r1 : List (S95)) (r2 : List (S95)) (w : World) (h : changeforgeref1_Highlight.f k a0 a1 = some (r1, r2)) :
    Calls Try.prog 38 #[.string a0, .string a1] w fun e w' => ∃ v0_ v1_ : Value, e = .returned (.tuple #[v0_, v1_]) ∧ Kd.R k95 95 w' w.heap.size (fun k_ => some k_ ≠ (v1_ : Value).ownBlock) v0_ r1 ∧ Kd.R k95 95 w' w.heap.size (fun k_ => some k_ ≠ (v0_ : Value).ownBlock) v1_ r2 ∧ Below w.heap.size w w' := by
  have HB := Aside0.mk (Below.refl w.heap.size w);have H : ((changeforgeref1_Tokens.f k a0).bind fun t195 => ((changeforgeref1_Tokens.f k a1).bind fun t198 => ((changeforgeref1_Align.f k t195 t198).bind fun t201 => (changeforgeref1_Highlight.l0 k t201 ([] : List Bool) ([] : List Bool) 0)))) = some (r1, r2) := h;clear h;replace H := Option.bind_eq_some_iff.mp H;obtain ⟨t195, A30, H⟩ := H;replace H : ((changeforgeref1_Tokens.f k a1).bind fun t198 => ((changeforgeref1_Align.f k t195 t198).bind fun t201 => (changeforgeref1_Highlight.l0 k t201 ([] : List Bool) ([] : List Bool) 0))) = some (r1, r2) := H;have A3 := Aside0.mk A30;clear A30;replace H := Option.bind_eq_some_iff.mp H;obtain ⟨t198, A40, H⟩ := H;replace H : ((changeforgeref1_Align.f k t195 t198).bind fun t201 => (changeforgeref1_Highlight.l0 k t201 ([] : List Bool) ([] : List Bool) 0)) = some (r1, r2) := H;have A4 := Aside0.mk A40;clear A40;replace H := Option.bind_eq_some_iff.mp H;obtain ⟨t201, A50, H⟩ := H;replace H : (changeforgeref1_Highlight.l0 k t201 ([] : List Bool) ([] : List Bool) 0) = some (r1, r2) := H;have A5 := Aside0.mk A50;clear A50;have H' := Aside0.mk H;clear H
  go_enter Try.func38, Try.ntmps38
  go_wp2_with (first|((with_reducible refine gate_callee (f := 37) rfl ?_);refine goesL_ (some 12) rfl rfl Try.func37 (by kernel_rfl) rfl #[.string a0] rfl mA ?_;(with_reducible refine (changeforgeref1_Tokens.calls k a0 t195 _ A3.out).mono ?_);rintro e w6 ⟨v196, rfl, ho0, hb⟩;refine ⟨_, rfl, ?_⟩;have HO197 := Aside0.mk (Kd.R_lower ho0 (below_size eB));replace HB := sBe HB hb;(try clear hb ho0))|((with_reducible refine gate_callee (f := 37) rfl ?_);refine goesL_ (some 14) rfl rfl Try.func37 (by kernel_rfl) rfl #[.string a1] rfl mA ?_;(with_reducible refine (changeforgeref1_Tokens.calls k a1 t198 _ A4.out).mono ?_);rintro e w7 ⟨v199, rfl, ho0, hb⟩;refine ⟨_, rfl, ?_⟩;have HO200 := Aside0.mk (Kd.R_lower (Kd.R_new' ho0 (Kd.R_lt (rK HO197))) (below_size eB));replace HO197 := Aside0.mk (Kd.R_elder' (rK HO197) (Kd.R_base ho0) hb);replace HB := sBe HB hb;(try clear hb ho0);obtain ⟨Ao8, co8, eo8⟩ := Kd.R_slice HO197.out;subst eo8;obtain ⟨Ao9, co9, eo9⟩ := Kd.R_slice HO200.out;subst eo9)|((with_reducible refine gate_callee (f := 52) rfl ?_);refine goesL_ (some 15) rfl rfl Try.func52 (by kernel_rfl) rfl #[.slice Ao8 t195.length co8, .slice Ao9 t198.length co9] rfl mA ?_;(with_reducible refine (changeforgeref1_Align.calls k _ _ t195 _ _ t198 t201 _ ?side1 ?side2 ?side3 ?side4 A5.out).mono ?_);(case side1 => repeat (first|exact (Kd.R_reads' HO197.out).2.2|(with_reducible refine Kd.C_alloc ?_ _)|(with_reducible refine Kd.C_drewN ?_ _)|(with_reducible refine Kd.C_drew ?_)));(case side2 => exact (Kd.R_reads' HO197.out).2.1);(case side3 => repeat (first|exact (Kd.R_reads' HO200.out).2.2|(with_reducible refine Kd.C_alloc ?_ _)|(with_reducible refine Kd.C_drewN ?_ _)|(with_reducible refine Kd.C_drew ?_)));(case side4 => exact (Kd.R_reads' HO200.out).2.1);rintro e w10 ⟨v202, rfl, ho0, hb⟩;refine ⟨_, rfl, ?_⟩;have HO203 := Aside0.mk (Kd.R_lower ho0 (below_size eB));replace HO197 := rL HO197 hb;replace HO200 := rL HO200 hb;replace HB := sBe HB hb;(try clear hb ho0)))
  go_loopg [7, 8, 9] k (fun kq v7 v8 v9 w' => ∃ (x7_1 : List Bool) (x8_1 : List Bool) (x9_1 : Int), v9 = .int .i64 x9_1 ∧ Aside0 (changeforgeref1_Highlight.l0 kq t201 x7_1 x8_1 x9_1 = some (r1, r2)) ∧ Aside0 (kq ≤ k) ∧ Aside0 (Kd.R k79 79 w' w.heap.size (fun _ => True) v202 t201) ∧ Aside0 (Kd.R Kd.bool 4 w' w.heap.size (fun k_ => some k_ ≠ (v8 : Value).ownBlock) v7 x7_1) ∧ Aside0 (Kd.R Kd.bool 4 w' w.heap.size (fun k_ => some k_ ≠ (v7 : Value).ownBlock) v8 x8_1) ∧ Aside0 (Below w.heap.size w w'))
  case atStart => exact ⟨(([] : List Bool)), (([] : List Bool)), (0), (by first|rfl|(simp only [i64_w, i32_w];done)|(simp only [i64_w, i32_w];rfl)|(simp;done)|(simp [*];done)), H', ⟨Nat.le_refl _⟩, ⟨by (with_reducible repeat first|apply rA|apply rN|apply rD);exact HO203.out⟩, ⟨by first|exact Kd.R_nil _ _ _ _ _|exact Kd.N_nil _ _ _ _ _|exact Kd.V_nil _ _ _ _ _|exact Kd.Q_nil _ _ _ _ _|exact Kd.S_nil _ _ _ _ _⟩, ⟨by first|exact Kd.R_nil _ _ _ _ _|exact Kd.N_nil _ _ _ _ _|exact Kd.V_nil _ _ _ _ _|exact Kd.Q_nil _ _ _ _ _|exact Kd.S_nil _ _ _ _ _⟩, ⟨eB⟩⟩
  case round =>
    clear H'
    try clear p2
    try clear c3
    try clear c5
    obtain ⟨x7_1, x8_1, x9_1, rfl, HA, HK1, HO_6, HO_7, HO_8, HB⟩ := hrel
    cases gk with
    | zero => exact absurd HA.out (by simp [changeforgeref1_Highlight.l0])
    | succ k1 =>
      have H := HA.out;clear HA;simp only [changeforgeref1_Highlight.l0] at H
      by_cases c11 : x9_1 < (t201.length : Int)
      · rw [if_pos c11] at H;have c11b0 : decide (x9_1 < (t201.length : Int)) = true := decide_eq_true c11;clear c11;have H' := Aside0.mk H;clear H;obtain ⟨Ao12, co12, eo12⟩ := Kd.R_slice HO_6.out;subst eo12
        go_wp2
        go_loopg [7, 8, 10] k1 (fun kq v7 v8 v10 w' => ∃ (x7_2 : List Bool) (x8_2 : List Bool) (x10_2 : Int), v10 = .int .i64 x10_2 ∧ Aside0 (changeforgeref1_Highlight.l1 kq t201 x7_2 x8_2 x9_1 x10_2 = some (r1, r2)) ∧ Aside0 (kq ≤ k1) ∧ Aside0 (Kd.R k79 79 w' w.heap.size (fun _ => True) (.slice Ao12 t201.length co12) t201) ∧ Aside0 (Kd.R Kd.bool 4 w' w.heap.size (fun k_ => some k_ ≠ (v8 : Value).ownBlock) v7 x7_2) ∧ Aside0 (Kd.R Kd.bool 4 w' w.heap.size (fun k_ => some k_ ≠ (v7 : Value).ownBlock) v8 x8_2) ∧ Aside0 (Below w.heap.size w w'))
        case atStart => exact ⟨(x7_1), (x8_1), (0), (by first|rfl|(simp only [i64_w, i32_w];done)|(simp only [i64_w, i32_w];rfl)|(simp;done)|(simp [*];done)), H', ⟨Nat.le_refl _⟩, ⟨by (with_reducible repeat first|apply rA|apply rN|apply rD);exact HO_6.out⟩, ⟨by (with_reducible repeat first|apply rA|apply rN|apply rD);exact HO_7.out⟩, ⟨by (with_reducible repeat first|apply rA|apply rN|apply rD);exact HO_8.out⟩, ⟨eB⟩⟩
        case round =>
          clear H'
          try clear c1
          try clear p2
          try clear c3
          try clear c5
          try clear c11
          try clear c11b0
          try clear p2
          obtain ⟨x7_2, x8_2, x10_2, rfl, HA, HK2, HO_6, HO_7, HO_8, HB⟩ := hrel
          cases gk with
          | zero => exact absurd HA.out (by simp [changeforgeref1_Highlight.l1])
          | succ k2 =>
            have H := HA.out;clear HA;simp only [changeforgeref1_Highlight.l1] at H
            by_cases c13 : 0 ≤ x9_1
            · rw [if_pos c13] at H;have c13b0 : decide (0 ≤ x9_1) = true := decide_eq_true c13;clear c13
              by_cases c14 : x9_1 < (t201.length : Int)
              · rw [if_pos c14] at H;have c14b0 : decide (x9_1 < (t201.length : Int)) = true := decide_eq_true c14;clear c14
                by_cases c15 : x10_2 < (((rd_T79 t201 x9_1).f1).size : Int)
                · rw [if_pos c15] at H;have c15b0 : decide (x10_2 < (((rd_T79 t201 x9_1).f1).size : Int)) = true := decide_eq_true c15;clear c15
                  by_cases c16 : ((rd_T79 t201 x9_1).f0) = 2
                  · rw [if_pos c16] at H;have c16b0 : (((rd_T79 t201 x9_1).f0) == 2) = true := beq_iff_eq.mpr c16;have c16b1 : (((rd_T79 t201 x9_1).f0) != 2) = false := bne_eq_false_iff_eq.mpr c16;clear c16
                    by_cases c17 : ((rd_T79 t201 x9_1).f0) = 1
                    · rw [if_pos c17] at H;have c17b0 : (((rd_T79 t201 x9_1).f0) == 1) = true := beq_iff_eq.mpr c17;have c17b1 : (((rd_T79 t201 x9_1).f0) != 1) = false := bne_eq_false_iff_eq.mpr c17;clear c17;have H' := Aside0.mk H;clear H;have p210 : 0 ≤ (x9_1 : Int) := dA;have q210 : x9_1 < (t201.length : Int) := dA;obtain ⟨ad210, e210, hx210_0, hx210_1⟩ := at_T79 (Kd.R_reads' HO_6.out).2.2 x9_1 p210 q210
                      cases e210
                      replace p210 := eq_true p210;replace q210 := eq_true q210;have p211 : 0 ≤ (x9_1 : Int) := dA;have q211 : x9_1 < (t201.length : Int) := dA;obtain ⟨ad211, e211, hx211_0, hx211_1⟩ := at_T79 (Kd.R_reads' HO_6.out).2.2 x9_1 p211 q211;obtain rfl : ad210 = ad211 := (by injection e211);replace p211 := eq_true p211;replace q211 := eq_true q211;have p212 : 0 ≤ (x9_1 : Int) := dA;have q212 : x9_1 < (t201.length : Int) := dA;obtain ⟨ad212, e212, hx212_0, hx212_1⟩ := at_T79 (Kd.R_reads' HO_6.out).2.2 x9_1 p212 q212;obtain rfl : ad210 = ad212 := (by injection e212);replace p212 := eq_true p212;replace q212 := eq_true q212
                      go_wp2
                      go_roundg k2
                      case measure => have := HK1.out;have := HK2.out;omega
                      case rel => exact ⟨(x7_2), (x8_2), (wrap64 (x10_2 + 1)), (by first|rfl|(simp only [i64_w, i32_w];done)|(simp only [i64_w, i32_w];rfl)|(simp;done)|(simp [*];done)), H', ⟨by have := HK1.out;have := HK2.out;omega⟩, ⟨by (with_reducible repeat first|apply rA|apply rN|apply rD);exact HO_6.out⟩, ⟨by (with_reducible repeat first|apply rA|apply rN|apply rD);exact HO_7.out⟩, ⟨by (with_reducible repeat first|apply rA|apply rN|apply rD);exact HO_8.out⟩, ⟨eB⟩⟩
                    · rw [if_neg c17] at H;have c17b0 : (((rd_T79 t201 x9_1).f0) == 1) = false := beq_eq_false_iff_ne.mpr c17;have c17b1 : (((rd_T79 t201 x9_1).f0) != 1) = true := bne_iff_ne.mpr c17
                      by_cases c18 : x8_2.length < 140737488355328
                      · rw [if_pos c18] at H;have LMc18 := Aside0.mk c18;clear c18;obtain ⟨y214, hy214⟩ : ∃ y_ : List Bool, y_ = (x8_2 ++ [(((rd_T79 t201 x9_1).f0) == 2)]) := ⟨_, rfl⟩;replace H : (changeforgeref1_Highlight.l1 k2 t201 x7_2 y214 x9_1 (wrap64 (x10_2 + 1))) = some (r1, r2) := (by first|(rw [hy214];with_reducible exact H)|(have H2_ := (Option.bind_some _ _).symm.trans H;rw [hy214];with_reducible exact H2_)|(have H2_ := (Option.bind_some _ _).symm.trans H;with_reducible exact H2_)|with_reducible exact H|(rw [hy214];exact H)|exact H);have Ny214 := Aside0.mk hy214;clear hy214;have H' := Aside0.mk H;clear H;have p210 : 0 ≤ (x9_1 : Int) := dA;have q210 : x9_1 < (t201.length : Int) := dA;obtain ⟨ad210, e210, hx210_0, hx210_1⟩ := at_T79 (Kd.R_reads' HO_6.out).2.2 x9_1 p210 q210
                        cases e210
                        replace p210 := eq_true p210;replace q210 := eq_true q210;have p211 : 0 ≤ (x9_1 : Int) := dA;have q211 : x9_1 < (t201.length : Int) := dA;obtain ⟨ad211, e211, hx211_0, hx211_1⟩ := at_T79 (Kd.R_reads' HO_6.out).2.2 x9_1 p211 q211;obtain rfl : ad210 = ad211 := (by injection e211);replace p211 := eq_true p211;replace q211 := eq_true q211;have p212 : 0 ≤ (x9_1 : Int) := dA;have q212 : x9_1 < (t201.length : Int) := dA;obtain ⟨ad212, e212, hx212_0, hx212_1⟩ := at_T79 (Kd.R_reads' HO_6.out).2.2 x9_1 p212 q212;obtain rfl : ad210 = ad212 := (by injection e212);replace p212 := eq_true p212;replace q212 := eq_true q212;have p213 : 0 ≤ (x9_1 : Int) := dA;have q213 : x9_1 < (t201.length : Int) := dA;obtain ⟨ad213, e213, hx213_0, hx213_1⟩ := at_T79 (Kd.R_reads' HO_6.out).2.2 x9_1 p213 q213;obtain rfl : ad210 = ad213 := (by injection e213);replace p213 := eq_true p213;replace q213 := eq_true q213
                        go_wp2_with (first|((with_reducible refine gate_builtin (b := .append) (xs := #[.tmp 53, .tmp 60]) rfl ?_);at_builtin;refine Kd.R_append Kd.bool (w0 := w) w.heap.size rfl (.tmp 53) (.tmp 60) 93 4 (.bool false) 1 rfl Try.underlying93 info4 rfl (by decide) (by omega) u8 x8_2 true [.bool true] (fun k_ => some k_ ≠ (u7 : Value).ownBlock) (fun _ => False) rfl rfl ?aP (fun _ hk => hk.elim) ?aF ?aO ?aB ?aS ?aL ?_;(case aP => exact rfl);(case aB => exact eB);(case aF => exact (fun k_ hk => Kd.fresh' (Kd.R_lt (rK HO_7)) k_ hk));(case aO => exact (rK HO_8));(case aS => exact (below_size eB));(case aL => have := LMc18.out;omega);intro v215 w19 ho hb hg hat;have e_ := Ny214.out;rw [c16b0] at e_;rw [← e_] at ho;clear e_;have n0_ := Aside0.mk (Kd.R_over' (rK HO_6) (Kd.R_typed (rK HO_8)) (by decide) hg);have n1_ := Aside0.mk (Kd.R_after (ok := (fun _ => True)) (rM HO_7 (fun _ hk => ⟨trivial, hk⟩)) hg hat);have n2_ := Aside0.mk (hb);have n3_ := Aside0.mk (ho);clear HO_6;clear HO_7;clear HB;clear HO_8;have HO_6 := n0_;have HO_7 := n1_;have HB := n2_;have HO216 := n3_;clear n0_ n1_ n2_ n3_;clear ho hb hg hat))
                        go_roundg k2
                        case measure => have := HK1.out;have := HK2.out;omega
                        case rel => exact ⟨(x7_2), (y214), (wrap64 (x10_2 + 1)), (by first|rfl|(simp only [i64_w, i32_w];done)|(simp only [i64_w, i32_w];rfl)|(simp;done)|(simp [*];done)), H', ⟨by have := HK1.out;have := HK2.out;omega⟩, ⟨by (with_reducible repeat first|apply rA|apply rN|apply rD);exact HO_6.out⟩, ⟨by (with_reducible repeat first|apply rA|apply rN|apply rD);exact Kd.R_mono HO_7.out (fun _ hk => hk.2)⟩, ⟨by (with_reducible repeat first|apply rA|apply rN|apply rD);exact HO216.out⟩, ⟨eB⟩⟩
                      · rw [if_neg c18] at H;exact absurd H (by simp)
                  · rw [if_neg c16] at H;have c16b0 : (((rd_T79 t201 x9_1).f0) == 2) = false := beq_eq_false_iff_ne.mpr c16;have c16b1 : (((rd_T79 t201 x9_1).f0) != 2) = true := bne_iff_ne.mpr c16
                    by_cases c20 : x7_2.length < 140737488355328
                    · rw [if_pos c20] at H;have LMc20 := Aside0.mk c20;clear c20;obtain ⟨y218, hy218⟩ : ∃ y_ : List Bool, y_ = (x7_2 ++ [(((rd_T79 t201 x9_1).f0) == 1)]) := ⟨_, rfl⟩;replace H : (if ((rd_T79 t201 x9_1).f0) = 1 then (changeforgeref1_Highlight.l1 k2 t201 y218 x8_2 x9_1 (wrap64 (x10_2 + 1))) else (if x8_2.length < 140737488355328 then (changeforgeref1_Highlight.l1 k2 t201 y218 (x8_2 ++ [(((rd_T79 t201 x9_1).f0) == 2)]) x9_1 (wrap64 (x10_2 + 1))) else (none))) = some (r1, r2) := (by first|(rw [hy218];with_reducible exact H)|(have H2_ := (Option.bind_some _ _).symm.trans H;rw [hy218];with_reducible exact H2_)|(have H2_ := (Option.bind_some _ _).symm.trans H;with_reducible exact H2_)|with_reducible exact H|(rw [hy218];exact H)|exact H);have Ny218 := Aside0.mk hy218;clear hy218
                      by_cases c21 : ((rd_T79 t201 x9_1).f0) = 1
                      · rw [if_pos c21] at H;have c21b0 : (((rd_T79 t201 x9_1).f0) == 1) = true := beq_iff_eq.mpr c21;have c21b1 : (((rd_T79 t201 x9_1).f0) != 1) = false := bne_eq_false_iff_eq.mpr c21;clear c21;have H' := Aside0.mk H;clear H;have p210 : 0 ≤ (x9_1 : Int) := dA;have q210 : x9_1 < (t201.length : Int) := dA;obtain ⟨ad210, e210, hx210_0, hx210_1⟩ := at_T79 (Kd.R_reads' HO_6.out).2.2 x9_1 p210 q210
                        cases e210
                        replace p210 := eq_true p210;replace q210 := eq_true q210;have p211 : 0 ≤ (x9_1 : Int) := dA;have q211 : x9_1 < (t201.length : Int) := dA;obtain ⟨ad211, e211, hx211_0, hx211_1⟩ := at_T79 (Kd.R_reads' HO_6.out).2.2 x9_1 p211 q211;obtain rfl : ad210 = ad211 := (by injection e211);replace p211 := eq_true p211;replace q211 := eq_true q211;have p217 : 0 ≤ (x9_1 : Int) := dA;have q217 : x9_1 < (t201.length : Int) := dA;obtain ⟨ad217, e217, hx217_0, hx217_1⟩ := at_T79 (Kd.R_reads' HO_6.out).2.2 x9_1 p217 q217;obtain rfl : ad210 = ad217 := (by injection e217);replace p217 := eq_true p217;replace q217 := eq_true q217
                        go_wp2_with (first|((with_reducible refine gate_builtin (b := .append) (xs := #[.tmp 38, .tmp 45]) rfl ?_);at_builtin;refine Kd.R_append Kd.bool (w0 := w) w.heap.size rfl (.tmp 38) (.tmp 45) 93 4 (.bool false) 1 rfl Try.underlying93 info4 rfl (by decide) (by omega) u7 x7_2 true [.bool true] (fun k_ => some k_ ≠ (u8 : Value).ownBlock) (fun _ => False) rfl rfl ?aP (fun _ hk => hk.elim) ?aF ?aO ?aB ?aS ?aL ?_;(case aP => exact rfl);(case aB => exact eB);(case aF => exact (fun k_ hk => Kd.fresh' (Kd.R_lt (rK HO_8)) k_ hk));(case aO => exact (rK HO_7));(case aS => exact (below_size eB));(case aL => have := LMc20.out;omega);intro v219 w22 ho hb hg hat;have e_ := Ny218.out;rw [c21b0] at e_;rw [← e_] at ho;clear e_;have n0_ := Aside0.mk (Kd.R_over' (rK HO_6) (Kd.R_typed (rK HO_7)) (by decide) hg);have n1_ := Aside0.mk (Kd.R_after (ok := (fun _ => True)) (rM HO_8 (fun _ hk => ⟨trivial, hk⟩)) hg hat);have n2_ := Aside0.mk (hb);have n3_ := Aside0.mk (ho);clear HO_6;clear HO_8;clear HB;clear HO_7;have HO_6 := n0_;have HO_8 := n1_;have HB := n2_;have HO220 := n3_;clear n0_ n1_ n2_ n3_;clear ho hb hg hat;have p221 : 0 ≤ (x9_1 : Int) := dA;have q221 : x9_1 < (t201.length : Int) := dA;obtain ⟨ad221, e221, hx221_0, hx221_1⟩ := at_T79 (Kd.R_reads' HO_6.out).2.2 x9_1 p221 q221;obtain rfl : ad210 = ad221 := (by injection e221);replace p221 := eq_true p221;replace q221 := eq_true q221))
                        go_roundg k2
                        case measure => have := HK1.out;have := HK2.out;omega
                        case rel => exact ⟨(y218), (x8_2), (wrap64 (x10_2 + 1)), (by first|rfl|(simp only [i64_w, i32_w];done)|(simp only [i64_w, i32_w];rfl)|(simp;done)|(simp [*];done)), H', ⟨by have := HK1.out;have := HK2.out;omega⟩, ⟨by (with_reducible repeat first|apply rA|apply rN|apply rD);exact HO_6.out⟩, ⟨by (with_reducible repeat first|apply rA|apply rN|apply rD);exact HO220.out⟩, ⟨by (with_reducible repeat first|apply rA|apply rN|apply rD);exact Kd.R_mono HO_8.out (fun _ hk => hk.2)⟩, ⟨eB⟩⟩
                      · rw [if_neg c21] at H;have c21b0 : (((rd_T79 t201 x9_1).f0) == 1) = false := beq_eq_false_iff_ne.mpr c21;have c21b1 : (((rd_T79 t201 x9_1).f0) != 1) = true := bne_iff_ne.mpr c21
                        by_cases c23 : x8_2.length < 140737488355328
                        · rw [if_pos c23] at H;have LMc23 := Aside0.mk c23;clear c23;obtain ⟨y223, hy223⟩ : ∃ y_ : List Bool, y_ = (x8_2 ++ [(((rd_T79 t201 x9_1).f0) == 2)]) := ⟨_, rfl⟩;replace H : (changeforgeref1_Highlight.l1 k2 t201 y218 y223 x9_1 (wrap64 (x10_2 + 1))) = some (r1, r2) := (by first|(rw [hy223];with_reducible exact H)|(have H2_ := (Option.bind_some _ _).symm.trans H;rw [hy223];with_reducible exact H2_)|(have H2_ := (Option.bind_some _ _).symm.trans H;with_reducible exact H2_)|with_reducible exact H|(rw [hy223];exact H)|exact H);have Ny223 := Aside0.mk hy223;clear hy223;have H' := Aside0.mk H;clear H;have p210 : 0 ≤ (x9_1 : Int) := dA;have q210 : x9_1 < (t201.length : Int) := dA;obtain ⟨ad210, e210, hx210_0, hx210_1⟩ := at_T79 (Kd.R_reads' HO_6.out).2.2 x9_1 p210 q210
                          cases e210
                          replace p210 := eq_true p210;replace q210 := eq_true q210;have p211 : 0 ≤ (x9_1 : Int) := dA;have q211 : x9_1 < (t201.length : Int) := dA;obtain ⟨ad211, e211, hx211_0, hx211_1⟩ := at_T79 (Kd.R_reads' HO_6.out).2.2 x9_1 p211 q211;obtain rfl : ad210 = ad211 := (by injection e211);replace p211 := eq_true p211;replace q211 := eq_true q211;have p217 : 0 ≤ (x9_1 : Int) := dA;have q217 : x9_1 < (t201.length : Int) := dA;obtain ⟨ad217, e217, hx217_0, hx217_1⟩ := at_T79 (Kd.R_reads' HO_6.out).2.2 x9_1 p217 q217;obtain rfl : ad210 = ad217 := (by injection e217);replace p217 := eq_true p217;replace q217 := eq_true q217
                          go_wp2_with (first|((with_reducible refine gate_builtin (b := .append) (xs := #[.tmp 38, .tmp 45]) rfl ?_);at_builtin;refine Kd.R_append Kd.bool (w0 := w) w.heap.size rfl (.tmp 38) (.tmp 45) 93 4 (.bool false) 1 rfl Try.underlying93 info4 rfl (by decide) (by omega) u7 x7_2 false [.bool false] (fun k_ => some k_ ≠ (u8 : Value).ownBlock) (fun _ => False) rfl rfl ?aP (fun _ hk => hk.elim) ?aF ?aO ?aB ?aS ?aL ?_;(case aP => exact rfl);(case aB => exact eB);(case aF => exact (fun k_ hk => Kd.fresh' (Kd.R_lt (rK HO_8)) k_ hk));(case aO => exact (rK HO_7));(case aS => exact (below_size eB));(case aL => have := LMc20.out;omega);intro v219 w24 ho hb hg hat;have e_ := Ny218.out;rw [c21b0] at e_;rw [← e_] at ho;clear e_;have n0_ := Aside0.mk (Kd.R_over' (rK HO_6) (Kd.R_typed (rK HO_7)) (by decide) hg);have n1_ := Aside0.mk (Kd.R_after (ok := (fun _ => True)) (rM HO_8 (fun _ hk => ⟨trivial, hk⟩)) hg hat);have n2_ := Aside0.mk (hb);have n3_ := Aside0.mk (ho);clear HO_6;clear HO_8;clear HB;clear HO_7;have HO_6 := n0_;have HO_8 := n1_;have HB := n2_;have HO220 := n3_;clear n0_ n1_ n2_ n3_;clear ho hb hg hat;have p221 : 0 ≤ (x9_1 : Int) := dA;have q221 : x9_1 < (t201.length : Int) := dA;obtain ⟨ad221, e221, hx221_0, hx221_1⟩ := at_T79 (Kd.R_reads' HO_6.out).2.2 x9_1 p221 q221;obtain rfl : ad210 = ad221 := (by injection e221);replace p221 := eq_true p221;replace q221 := eq_true q221;have p222 : 0 ≤ (x9_1 : Int) := dA;have q222 : x9_1 < (t201.length : Int) := dA;obtain ⟨ad222, e222, hx222_0, hx222_1⟩ := at_T79 (Kd.R_reads' HO_6.out).2.2 x9_1 p222 q222;obtain rfl : ad210 = ad222 := (by injection e222);replace p222 := eq_true p222;replace q222 := eq_true q222)|((with_reducible refine gate_builtin (b := .append) (xs := #[.tmp 53, .tmp 60]) rfl ?_);at_builtin;refine Kd.R_append Kd.bool (w0 := w) w.heap.size rfl (.tmp 53) (.tmp 60) 93 4 (.bool false) 1 rfl Try.underlying93 info4 rfl (by decide) (by omega) u8 x8_2 false [.bool false] (fun k_ => some k_ ≠ (v219 : Value).ownBlock) (fun _ => False) rfl rfl ?aP (fun _ hk => hk.elim) ?aF ?aO ?aB ?aS ?aL ?_;(case aP => exact rfl);(case aB => exact eB);(case aF => exact (fun k_ hk => Kd.fresh' (Kd.R_lt (rK HO220)) k_ hk));(case aO => exact (rM HO_8 (fun _ hk => hk.2)));(case aS => exact (below_size eB));(case aL => have := LMc23.out;omega);intro v224 w25 ho hb hg hat;have e_ := Ny223.out;rw [c16b0] at e_;rw [← e_] at ho;clear e_;have n0_ := Aside0.mk (Kd.R_over' (rK HO_6) (Kd.R_typed (rK HO_8)) (by decide) hg);have n1_ := Aside0.mk (Kd.R_after (ok := (fun _ => True)) (rM HO220 (fun _ hk => ⟨trivial, hk⟩)) hg hat);have n2_ := Aside0.mk (hb);have n3_ := Aside0.mk (ho);clear HO_6;clear HO220;clear HB;clear HO_8;have HO_6 := n0_;have HO220 := n1_;have HB := n2_;have HO225 := n3_;clear n0_ n1_ n2_ n3_;clear ho hb hg hat))
                          go_roundg k2
                          case measure => have := HK1.out;have := HK2.out;omega
                          case rel => exact ⟨(y218), (y223), (wrap64 (x10_2 + 1)), (by first|rfl|(simp only [i64_w, i32_w];done)|(simp only [i64_w, i32_w];rfl)|(simp;done)|(simp [*];done)), H', ⟨by have := HK1.out;have := HK2.out;omega⟩, ⟨by (with_reducible repeat first|apply rA|apply rN|apply rD);exact HO_6.out⟩, ⟨by (with_reducible repeat first|apply rA|apply rN|apply rD);exact Kd.R_mono HO220.out (fun _ hk => hk.2)⟩, ⟨by (with_reducible repeat first|apply rA|apply rN|apply rD);exact HO225.out⟩, ⟨eB⟩⟩
                        · rw [if_neg c23] at H;exact absurd H (by simp)
                    · rw [if_neg c20] at H;exact absurd H (by simp)
                · rw [if_neg c15] at H;have c15b0 : decide (x10_2 < (((rd_T79 t201 x9_1).f1).size : Int)) = false := decide_eq_false c15;clear c15;have H' := Aside0.mk H;clear H;have p210 : 0 ≤ (x9_1 : Int) := dA;have q210 : x9_1 < (t201.length : Int) := dA;obtain ⟨ad210, e210, hx210_0, hx210_1⟩ := at_T79 (Kd.R_reads' HO_6.out).2.2 x9_1 p210 q210
                  cases e210
                  replace p210 := eq_true p210;replace q210 := eq_true q210
                  go_wp2
                  go_roundg k2
                  case measure => have := HK1.out;have := HK2.out;omega
                  case rel => exact ⟨(x7_2), (x8_2), (wrap64 (x9_1 + 1)), (by first|rfl|(simp only [i64_w, i32_w];done)|(simp only [i64_w, i32_w];rfl)|(simp;done)|(simp [*];done)), H', ⟨by have := HK1.out;have := HK2.out;omega⟩, ⟨by (with_reducible repeat first|apply rA|apply rN|apply rD);exact HO_6.out⟩, ⟨by (with_reducible repeat first|apply rA|apply rN|apply rD);exact HO_7.out⟩, ⟨by (with_reducible repeat first|apply rA|apply rN|apply rD);exact HO_8.out⟩, ⟨eB⟩⟩
              · rw [if_neg c14] at H;exact absurd H (by simp)
            · rw [if_neg c13] at H;exact absurd H (by simp)
      · rw [if_neg c11] at H;have c11b0 : decide (x9_1 < (t201.length : Int)) = false := decide_eq_false c11;clear c11;replace H := Option.bind_eq_some_iff.mp H;obtain ⟨t204, A260, H⟩ := H;replace H : ((changeforgeref1_ranges.f k1 x8_1).bind fun t207 => (some (t204, t207))) = some (r1, r2) := H;have A26 := Aside0.mk A260;clear A260;replace H := Option.bind_eq_some_iff.mp H;obtain ⟨t207, A270, H⟩ := H;replace H : (some (t204, t207)) = some (r1, r2) := H;have A27 := Aside0.mk A270;clear A270;simp only [Option.some.injEq, Prod.mk.injEq] at H;obtain ⟨rfl, rfl⟩ := H;obtain ⟨Ao28, co28, eo28⟩ := Kd.R_slice HO_6.out;subst eo28;obtain ⟨Ao29, co29, eo29⟩ := Kd.R_slice HO_7.out;subst eo29
        go_wp2_with (first|((with_reducible refine gate_callee (f := 68) rfl ?_);refine goesL_ (some 63) rfl rfl Try.func68 (by kernel_rfl) rfl #[.slice Ao29 x7_1.length co29] rfl mA ?_;(with_reducible refine (changeforgeref1_ranges.calls k1 _ _ x7_1 t204 _ ?side1 ?side2 A26.out).mono ?_);(case side1 => repeat (first|exact (Kd.R_reads' HO_7.out).2.2|(with_reducible refine Kd.C_alloc ?_ _)|(with_reducible refine Kd.C_drewN ?_ _)|(with_reducible refine Kd.C_drew ?_)));(case side2 => exact (Kd.R_reads' HO_7.out).2.1);rintro e w30 ⟨v205, rfl, ho0, hb⟩;refine ⟨_, rfl, ?_⟩;have HO206 := Aside0.mk (Kd.R_lower ho0 (below_size eB));replace HO_6 := rL HO_6 hb;replace HO_7 := rL HO_7 hb;replace HO_8 := rL HO_8 hb;replace HB := sBe HB hb;(try clear hb ho0);obtain ⟨Ao31, co31, eo31⟩ := Kd.R_slice HO_8.out;subst eo31)|((with_reducible refine gate_callee (f := 68) rfl ?_);refine goesL_ (some 65) rfl rfl Try.func68 (by kernel_rfl) rfl #[.slice Ao31 x8_1.length co31] rfl mA ?_;(with_reducible refine (changeforgeref1_ranges.calls k1 _ _ x8_1 t207 _ ?side1 ?side2 A27.out).mono ?_);(case side1 => repeat (first|exact (Kd.R_reads' HO_8.out).2.2|(with_reducible refine Kd.C_alloc ?_ _)|(with_reducible refine Kd.C_drewN ?_ _)|(with_reducible refine Kd.C_drew ?_)));(case side2 => exact (Kd.R_reads' HO_8.out).2.1);rintro e w32 ⟨v208, rfl, ho0, hb⟩;refine ⟨_, rfl, ?_⟩;have HO209 := Aside0.mk (Kd.R_lower (Kd.R_new' ho0 (Kd.R_lt (rK HO206))) (below_size eB));replace HO_6 := rL HO_6 hb;replace HO_7 := rL HO_7 hb;replace HO_8 := rL HO_8 hb;replace HO206 := Aside0.mk (Kd.R_elder' (rK HO206) (Kd.R_base ho0) hb);replace HB := sBe HB hb;(try clear hb ho0)))
        go_ret2
        exact ⟨_, _, rW, by (with_reducible repeat first|apply rA|apply rN|apply rD);exact Kd.R_mono HO206.out (fun _ hk => hk.2), by (with_reducible repeat first|apply rA|apply rN|apply rD);exact Kd.R_mono HO209.out (fun _ hk => hk.2), eB⟩

/-! ### changeforgeequal_Pairs: function 39 -/
def changeforgeequal_Pairs.l0 : Nat → List (S95) → List (S95) → Int → Option (Bool)
  | 0, _, _, _ => none
  | k + 1, x0, x1, x5 => if x5 < (x0.length : Int) then (if 0 ≤ x5 then (if x5 < (x1.length : Int) then (if (!(((rd_T95 x0 x5).f0) == ((rd_T95 x1 x5).f0)) || (!(((rd_T95 x0 x5).f1) == ((rd_T95 x1 x5).f1)))) = true then (some false) else (changeforgeequal_Pairs.l0 k x0 x1 (wrap64 (x5 + 1)))) else (none)) else (none)) else (some true)
def changeforgeequal_Pairs.f (k : Nat) (l0 : List (S95)) (l1 : List (S95)) : Option (Bool) := if (l0.length : Int) = (l1.length : Int) then (changeforgeequal_Pairs.l0 k l0 l1 0) else (some false)
theorem changeforgeequal_Pairs.mono_l : ∀ k, (∀ y0 y1 y2, LeO (changeforgeequal_Pairs.l0 k y0 y1 y2) (changeforgeequal_Pairs.l0 (k + 1) y0 y1 y2))
  | 0 => fun _ _ _ r h => by simp [changeforgeequal_Pairs.l0] at h
  | k + 1 => by
    have ih0 := changeforgeequal_Pairs.mono_l k
    · intro y0 y1 y2
      unfold changeforgeequal_Pairs.l0
      repeat' first
      | (with_reducible exact ih0 _ _ _)
      | (with_reducible exact LeO.refl _)
      | (with_reducible exact LeO.none _)
      | (with_reducible refine LeO.ite ?_ ?_)
      | (with_reducible refine LeO.bind ?_ (fun _ => ?_))
      | exact ih0 _ _ _
      | exact LeO.none _
      | refine LeO.ite ?_ ?_
      | refine LeO.bind ?_ (fun _ => ?_)
theorem changeforgeequal_Pairs.mono : ∀ a0 a1 k, LeO (changeforgeequal_Pairs.f k a0 a1) (changeforgeequal_Pairs.f (k + 1) a0 a1) := by
  intro a0 a1 k
  have ih0 := changeforgeequal_Pairs.mono_l k
  unfold changeforgeequal_Pairs.f
  repeat' first
      | (with_reducible exact ih0 _ _ _)
      | (with_reducible exact LeO.refl _)
      | (with_reducible exact LeO.none _)
      | (with_reducible refine LeO.ite ?_ ?_)
      | (with_reducible refine LeO.bind ?_ (fun _ => ?_))
      | exact ih0 _ _ _
      | exact LeO.none _
      | refine LeO.ite ?_ ?_
      | refine LeO.bind ?_ (fun _ => ?_)
set_option maxHeartbeats 8000000 in
set_option maxRecDepth 100000 in
theorem changeforgeequal_Pairs.calls (k : Nat) (A0 : Option Addr) (c0 : Nat) (l0 : List (S95)) (A1 : Option Addr) (c1 : Nat) (l1 : List (S95)) (r : Bool) (w : World) (hr0 : Kd.C k95 w A0 l0.length l0) (hc0 : l0.length ≤ c0) (hr1 : Kd.C k95 w A1 l1.length l1) (hc1 : l1.length ≤ c1) (h : changeforgeequal_Pairs.f k l0 l1 = some r) :
    Calls Try.prog 39 #[.slice A0 l0.length c0, .slice A1 l1.length c1] w fun e w' => e = .returned (.bool r) ∧ Drawn0 w w' := by
  have hu95 := Try.underlying95;have HR0 := Aside0.mk hr0;have HC0 := Aside0.mk hc0;clear hr0 hc0;have HR1 := Aside0.mk hr1;have HC1 := Aside0.mk hc1;clear hr1 hc1;have H : (if (l0.length : Int) = (l1.length : Int) then (changeforgeequal_Pairs.l0 k l0 l1 0) else (some false)) = some r := h;clear h
  by_cases c3 : (l0.length : Int) = (l1.length : Int)
  · rw [if_pos c3] at H;have c3b0 : ((l0.length : Int) == (l1.length : Int)) = true := beq_iff_eq.mpr c3;have c3b1 : ((l0.length : Int) != (l1.length : Int)) = false := bne_eq_false_iff_eq.mpr c3;have c3b2 : (l0.length == l1.length) = true := (by first|simpa using c3|(simp at c3 ⊢;omega));clear c3;have H' := Aside0.mk H;clear H
    go_enter Try.func39, Try.ntmps39
    go_wp2
    repeat (go_quiet (fail);try go_wp2)
    go_loopg [5] k (fun kq v5 w' => ∃ (x5_1 : Int), v5 = .int .i64 x5_1 ∧ Aside0 (changeforgeequal_Pairs.l0 kq l0 l1 x5_1 = some r) ∧ Aside0 (kq ≤ k) ∧ Drawn0 w w')
    case atStart => exact ⟨(0), (by first|rfl|(simp only [i64_w, i32_w];done)|(simp only [i64_w, i32_w];rfl)|(simp;done)|(simp [*];done)), H', ⟨Nat.le_refl _⟩, by repeat (first|exact Drawn0.refl _|apply Drawn0.step)⟩
    case round =>
      clear H'
      try clear c1
      try clear p2
      try clear c3
      try clear c3b0
      try clear c3b1
      try clear c3b2
      obtain ⟨x5_1, rfl, HA, HK1, ⟨m1, rfl⟩⟩ := hrel
      cases gk with
      | zero => exact absurd HA.out (by simp [changeforgeequal_Pairs.l0])
      | succ k1 =>
        have H := HA.out;clear HA;simp only [changeforgeequal_Pairs.l0] at H
        by_cases c4 : x5_1 < (l0.length : Int)
        · rw [if_pos c4] at H;have c4b0 : decide (x5_1 < (l0.length : Int)) = true := decide_eq_true c4;clear c4
          by_cases c5 : 0 ≤ x5_1
          · rw [if_pos c5] at H;have c5b0 : decide (0 ≤ x5_1) = true := decide_eq_true c5;clear c5
            by_cases c6 : x5_1 < (l1.length : Int)
            · rw [if_pos c6] at H;have c6b0 : decide (x5_1 < (l1.length : Int)) = true := decide_eq_true c6;clear c6
              by_cases c7 : (!(((rd_T95 l0 x5_1).f0) == ((rd_T95 l1 x5_1).f0)) || (!(((rd_T95 l0 x5_1).f1) == ((rd_T95 l1 x5_1).f1)))) = true
              · rw [if_pos c7] at H;have c7b0 : (!(((rd_T95 l0 x5_1).f0) == ((rd_T95 l1 x5_1).f0)) || (!(((rd_T95 l0 x5_1).f1) == ((rd_T95 l1 x5_1).f1)))) = true := c7;clear c7;obtain rfl := Option.some.inj H;have p226 : 0 ≤ (x5_1 : Int) := dA;have q226 : x5_1 < (l0.length : Int) := dA;obtain ⟨ad226, e226, hx226_0, hx226_1⟩ := at_T95 HR0.out x5_1 p226 q226
                cases e226
                replace p226 := eq_true p226;replace q226 := eq_true q226;have p227 : 0 ≤ (x5_1 : Int) := dA;have q227 : x5_1 < (l1.length : Int) := dA;obtain ⟨ad227, e227, hx227_0, hx227_1⟩ := at_T95 HR1.out x5_1 p227 q227
                cases e227
                replace p227 := eq_true p227;replace q227 := eq_true q227
                go_wp2
                repeat (go_quiet (fail);try go_wp2)
                go_ret
                exact ⟨by first|rfl|(simp;done)|(simp [*];done), by repeat (first|exact Drawn0.refl _|apply Drawn0.step)⟩
              · rw [if_neg c7] at H;have c7b0 : (!(((rd_T95 l0 x5_1).f0) == ((rd_T95 l1 x5_1).f0)) || (!(((rd_T95 l0 x5_1).f1) == ((rd_T95 l1 x5_1).f1)))) = false := (by simpa using c7);clear c7;have H' := Aside0.mk H;clear H;have p226 : 0 ≤ (x5_1 : Int) := dA;have q226 : x5_1 < (l0.length : Int) := dA;obtain ⟨ad226, e226, hx226_0, hx226_1⟩ := at_T95 HR0.out x5_1 p226 q226
                cases e226
                replace p226 := eq_true p226;replace q226 := eq_true q226;have p227 : 0 ≤ (x5_1 : Int) := dA;have q227 : x5_1 < (l1.length : Int) := dA;obtain ⟨ad227, e227, hx227_0, hx227_1⟩ := at_T95 HR1.out x5_1 p227 q227
                cases e227
                replace p227 := eq_true p227;replace q227 := eq_true q227
                go_wp2
                repeat (go_quiet (fail);try go_wp2)
                go_roundg k1
                case measure => have := HK1.out;omega
                case rel => exact ⟨(wrap64 (x5_1 + 1)), (by first|rfl|(simp only [i64_w, i32_w];done)|(simp only [i64_w, i32_w];rfl)|(simp;done)|(simp [*];done)), H', ⟨by have := HK1.out;omega⟩, by repeat (first|exact Drawn0.refl _|apply Drawn0.step)⟩
            · rw [if_neg c6] at H;exact absurd H (by simp)
          · rw [if_neg c5] at H;exact absurd H (by simp)
        · rw [if_neg c4] at H;have c4b0 : decide (x5_1 < (l0.length : Int)) = false := decide_eq_false c4;clear c4;obtain rfl := Option.some.inj H
          go_wp2
          repeat (go_quiet (fail);try go_wp2)
          go_ret
          exact ⟨by first|rfl|(simp;done)|(simp [*];done), by repeat (first|exact Drawn0.refl _|apply Drawn0.step)⟩
  · rw [if_neg c3] at H;have c3b0 : ((l0.length : Int) == (l1.length : Int)) = false := beq_eq_false_iff_ne.mpr c3;have c3b1 : ((l0.length : Int) != (l1.length : Int)) = true := bne_iff_ne.mpr c3;have c3b2 : (l0.length == l1.length) = false := (by first|simpa using c3|(simp at c3 ⊢;omega));obtain rfl := Option.some.inj H
    go_enter Try.func39, Try.ntmps39
    go_wp2
    repeat (go_quiet (fail);try go_wp2)
    go_ret
    exact ⟨by first|rfl|(simp;done)|(simp [*];done), by repeat (first|exact Drawn0.refl _|apply Drawn0.step)⟩

/-! ### changeforgelaw1_WorddiffMatchesSpec: function 11 -/
def changeforgelaw1_WorddiffMatchesSpec.j0 : Nat → ByteArray → ByteArray → List (S95) → List (S95) → Int → Bool → Int → Int → Option (Bool)
  | 0, _, _, _, _, _, _, _, _ => none
  | k + 1, x0, x1, x7, x8, x11, x69, x243000, x243001 => if x69 = true then (some false) else (if x11 = 0 then ((changeforgeref1_Highlight.f k x0 x1).bind fun bt257 => (if x243000 = 0 then ((changeforgeequal_Pairs.f k x7 bt257.1).bind fun t263 => (if t263 = true then ((changeforgeequal_Pairs.f k x8 bt257.2).bind fun t264 => (if t264 = true then ((changeforgelaw1_split.f).bind fun t265 => (some t265)) else (some false))) else (some false))) else (some false))) else ((changeforgeref1_At.f x11 1).bind fun bt254 => (if (x243000 == bt254.1 && (x243001 == bt254.2)) = true then (if (x7.length : Int) = 0 then (if (x8.length : Int) = 0 then ((changeforgelaw1_split.f).bind fun t256 => (some t256)) else (some false)) else (some false)) else (some false))))
def changeforgelaw1_WorddiffMatchesSpec.f (k : Nat) (a0 : ByteArray) (a1 : ByteArray) : Option (Bool) := (worddiff_Tokens.f a0).bind fun bt228 => ((worddiff_Highlight.f a0 a1).bind fun bt234 => ((changeforgeref1_One.f a0).bind fun t243 => ((changeforgeref1_One.f a1).bind fun t244 => (if t243 = 0 then (if bt228.2.1 = 0 then ((changeforgeref1_Tokens.f k a0).bind fun t250 => ((changeforgeequal_Strings.f bt228.1 t250).bind fun t253 => (changeforgelaw1_WorddiffMatchesSpec.j0 k a0 a1 bt234.1 bt234.2.1 t244 (!t253) bt234.2.2.1 bt234.2.2.2))) else (changeforgelaw1_WorddiffMatchesSpec.j0 k a0 a1 bt234.1 bt234.2.1 t244 true bt234.2.2.1 bt234.2.2.2)) else ((changeforgeref1_At.f t243 0).bind fun bt245 => (if (bt228.2.1 == bt245.1 && (bt228.2.2 == bt245.2)) = true then ((changeforgeref1_At.f t243 0).bind fun bt247 => (if (bt234.2.2.1 == bt247.1 && (bt234.2.2.2 == bt247.2)) = true then (if (bt228.1.length : Int) = 0 then (if (bt234.1.length : Int) = 0 then (if (bt234.2.1.length : Int) = 0 then ((changeforgelaw1_split.f).bind fun t249 => (some t249)) else (some false)) else (some false)) else (some false)) else (some false))) else (some false)))))))
theorem changeforgelaw1_WorddiffMatchesSpec.mono_l : ∀ k, (∀ y0 y1 y2 y3 y4 y5 y6 y7, LeO (changeforgelaw1_WorddiffMatchesSpec.j0 k y0 y1 y2 y3 y4 y5 y6 y7) (changeforgelaw1_WorddiffMatchesSpec.j0 (k + 1) y0 y1 y2 y3 y4 y5 y6 y7))
  | 0 => fun _ _ _ _ _ _ _ _ r h => by simp [changeforgelaw1_WorddiffMatchesSpec.j0] at h
  | k + 1 => by
    have ih0 := changeforgelaw1_WorddiffMatchesSpec.mono_l k
    · intro y0 y1 y2 y3 y4 y5 y6 y7
      unfold changeforgelaw1_WorddiffMatchesSpec.j0
      repeat' first
      | (with_reducible exact ih0 _ _ _ _ _ _ _ _)
      | (with_reducible exact changeforgeequal_Pairs.mono _ _ _)
      | (with_reducible exact changeforgeref1_Highlight.mono _ _ _)
      | (with_reducible exact changeforgeref1_Tokens.mono _ _)
      | (with_reducible exact LeO.refl _)
      | (with_reducible exact LeO.none _)
      | (with_reducible refine LeO.ite ?_ ?_)
      | (with_reducible refine LeO.bind ?_ (fun _ => ?_))
      | exact ih0 _ _ _ _ _ _ _ _
      | exact changeforgeequal_Pairs.mono _ _ _
      | exact changeforgeref1_Highlight.mono _ _ _
      | exact changeforgeref1_Tokens.mono _ _
      | exact LeO.none _
      | refine LeO.ite ?_ ?_
      | refine LeO.bind ?_ (fun _ => ?_)
theorem changeforgelaw1_WorddiffMatchesSpec.mono : ∀ a0 a1 k, LeO (changeforgelaw1_WorddiffMatchesSpec.f k a0 a1) (changeforgelaw1_WorddiffMatchesSpec.f (k + 1) a0 a1) := by
  intro a0 a1 k
  have ih0 := changeforgelaw1_WorddiffMatchesSpec.mono_l k
  unfold changeforgelaw1_WorddiffMatchesSpec.f
  repeat' first
      | (with_reducible exact ih0 _ _ _ _ _ _ _ _)
      | (with_reducible exact changeforgeequal_Pairs.mono _ _ _)
      | (with_reducible exact changeforgeref1_Highlight.mono _ _ _)
      | (with_reducible exact changeforgeref1_Tokens.mono _ _)
      | (with_reducible exact LeO.refl _)
      | (with_reducible exact LeO.none _)
      | (with_reducible refine LeO.ite ?_ ?_)
      | (with_reducible refine LeO.bind ?_ (fun _ => ?_))
      | exact ih0 _ _ _ _ _ _ _ _
      | exact changeforgeequal_Pairs.mono _ _ _
      | exact changeforgeref1_Highlight.mono _ _ _
      | exact changeforgeref1_Tokens.mono _ _
      | exact LeO.none _
      | refine LeO.ite ?_ ?_
      | refine LeO.bind ?_ (fun _ => ?_)
def changeforgelaw1_WorddiffMatchesSpec.T6 : Bool × List (List Nat × List Nat) := (true, [([], []), ([], []), ([1], [1]), ([0, 2], [0, 2]), ([3, 2], [3]), ([4], [4]), ([4], [4]), ([6, 4, 4], [4, 6]), ([5, 7, 4], [4, 5, 7]), ([4, 8], [4, 8]), ([9, 7], [9]), ([10], [10]), ([11, 10], [10, 11]), ([12, 10], [10, 12]), ([10, 13], [10, 13]), ([14, 10], [14]), ([15], [15]), ([16, 15], [15, 16]), ([17, 15], [15, 17]), ([15, 18], [15, 18]), ([19, 15], [19]), ([20], [20]), ([21, 20], [20, 21]), ([22, 20], [20, 22]), ([20, 23], [20, 23]), ([24, 20], [24]), ([25, 25], [25]), ([25, 26], [25, 26]), ([27, 26, 0, 1, 2, 3, 4, 5, 6, 7, 8, 9, 10, 11, 12, 13, 14, 15, 16, 17, 18, 19, 20, 21, 22, 23, 24, 25, 26, 27], [27])])
def changeforgelaw1_WorddiffMatchesSpec.B6 : List Nat := [0, 0, 2, 7, 15, 31, 31, 95, 255, 511, 1023, 2047, 4095, 8191, 16383, 32767, 65535, 131071, 262143, 524287, 1048575, 2097151, 4194303, 8388607, 16777215, 33554431, 67108863, 134217727, 268435455]
theorem changeforgelaw1_WorddiffMatchesSpec.tab6 : rtab .any (opsOf Try.f11 6) = changeforgelaw1_WorddiffMatchesSpec.T6 := by kernel_rfl
theorem changeforgelaw1_WorddiffMatchesSpec.bits6 : waitsOk changeforgelaw1_WorddiffMatchesSpec.T6.2 changeforgelaw1_WorddiffMatchesSpec.B6 = true := by kernel_rfl
def changeforgelaw1_WorddiffMatchesSpec.T10 : Bool × List (List Nat × List Nat) := (true, [([], []), ([], []), ([1], [1]), ([0, 2], [0, 2]), ([3, 2], [3]), ([4], [4]), ([5, 4], [4, 5]), ([6, 4], [4, 6]), ([4, 7], [4, 7]), ([8, 4], [8]), ([9], [9]), ([10, 9], [9, 10]), ([11, 9], [9, 11]), ([9, 12], [9, 12]), ([13, 9], [13]), ([14, 14], [14]), ([14, 15], [14, 15]), ([16, 15, 0, 1, 2, 3, 4, 5, 6, 7, 8, 9, 10, 11, 12, 13, 14, 15, 16], [16])])
def changeforgelaw1_WorddiffMatchesSpec.B10 : List Nat := [0, 0, 2, 7, 15, 31, 63, 127, 255, 511, 1023, 2047, 4095, 8191, 16383, 32767, 65535, 131071]
theorem changeforgelaw1_WorddiffMatchesSpec.tab10 : rtab .any (opsOf Try.f11 10) = changeforgelaw1_WorddiffMatchesSpec.T10 := by kernel_rfl
theorem changeforgelaw1_WorddiffMatchesSpec.bits10 : waitsOk changeforgelaw1_WorddiffMatchesSpec.T10.2 changeforgelaw1_WorddiffMatchesSpec.B10 = true := by kernel_rfl
set_option maxHeartbeats 8000000 in
set_option maxRecDepth 100000 in
theorem changeforgelaw1_WorddiffMatchesSpec.calls (k : Nat) (a0 : ByteArray) (a1 : ByteArray) (r : Bool) (w : World) (h : changeforgelaw1_WorddiffMatchesSpec.f k a0 a1 = some r) (hrt : r = true) :
    Calls Try.prog 11 #[.string a0, .string a1] w fun e w' => e = .returned (.bool r) ∧ Below w.heap.size w w' := by
  have hu24 := Try.underlying24;have HB := Aside0.mk (Below.refl w.heap.size w);have H : ((worddiff_Tokens.f a0).bind fun bt228 => ((worddiff_Highlight.f a0 a1).bind fun bt234 => ((changeforgeref1_One.f a0).bind fun t243 => ((changeforgeref1_One.f a1).bind fun t244 => (if t243 = 0 then (if bt228.2.1 = 0 then ((changeforgeref1_Tokens.f k a0).bind fun t250 => ((changeforgeequal_Strings.f bt228.1 t250).bind fun t253 => (changeforgelaw1_WorddiffMatchesSpec.j0 k a0 a1 bt234.1 bt234.2.1 t244 (!t253) bt234.2.2.1 bt234.2.2.2))) else (changeforgelaw1_WorddiffMatchesSpec.j0 k a0 a1 bt234.1 bt234.2.1 t244 true bt234.2.2.1 bt234.2.2.2)) else ((changeforgeref1_At.f t243 0).bind fun bt245 => (if (bt228.2.1 == bt245.1 && (bt228.2.2 == bt245.2)) = true then ((changeforgeref1_At.f t243 0).bind fun bt247 => (if (bt234.2.2.1 == bt247.1 && (bt234.2.2.2 == bt247.2)) = true then (if (bt228.1.length : Int) = 0 then (if (bt234.1.length : Int) = 0 then (if (bt234.2.1.length : Int) = 0 then ((changeforgelaw1_split.f).bind fun t249 => (some t249)) else (some false)) else (some false)) else (some false)) else (some false))) else (some false)))))))) = some r := h;clear h;replace H := Option.bind_eq_some_iff.mp H;obtain ⟨⟨t228, t231, t232⟩, A30, H⟩ := H;replace H : ((worddiff_Highlight.f a0 a1).bind fun bt234 => ((changeforgeref1_One.f a0).bind fun t243 => ((changeforgeref1_One.f a1).bind fun t244 => (if t243 = 0 then (if t231 = 0 then ((changeforgeref1_Tokens.f k a0).bind fun t250 => ((changeforgeequal_Strings.f t228 t250).bind fun t253 => (changeforgelaw1_WorddiffMatchesSpec.j0 k a0 a1 bt234.1 bt234.2.1 t244 (!t253) bt234.2.2.1 bt234.2.2.2))) else (changeforgelaw1_WorddiffMatchesSpec.j0 k a0 a1 bt234.1 bt234.2.1 t244 true bt234.2.2.1 bt234.2.2.2)) else ((changeforgeref1_At.f t243 0).bind fun bt245 => (if (t231 == bt245.1 && (t232 == bt245.2)) = true then ((changeforgeref1_At.f t243 0).bind fun bt247 => (if (bt234.2.2.1 == bt247.1 && (bt234.2.2.2 == bt247.2)) = true then (if (t228.length : Int) = 0 then (if (bt234.1.length : Int) = 0 then (if (bt234.2.1.length : Int) = 0 then ((changeforgelaw1_split.f).bind fun t249 => (some t249)) else (some false)) else (some false)) else (some false)) else (some false))) else (some false))))))) = some r := H;have A3 := Aside0.mk A30;clear A30;replace H := Option.bind_eq_some_iff.mp H;obtain ⟨⟨t234, t237, t240, t241⟩, A40, H⟩ := H;replace H : ((changeforgeref1_One.f a0).bind fun t243 => ((changeforgeref1_One.f a1).bind fun t244 => (if t243 = 0 then (if t231 = 0 then ((changeforgeref1_Tokens.f k a0).bind fun t250 => ((changeforgeequal_Strings.f t228 t250).bind fun t253 => (changeforgelaw1_WorddiffMatchesSpec.j0 k a0 a1 t234 t237 t244 (!t253) t240 t241))) else (changeforgelaw1_WorddiffMatchesSpec.j0 k a0 a1 t234 t237 t244 true t240 t241)) else ((changeforgeref1_At.f t243 0).bind fun bt245 => (if (t231 == bt245.1 && (t232 == bt245.2)) = true then ((changeforgeref1_At.f t243 0).bind fun bt247 => (if (t240 == bt247.1 && (t241 == bt247.2)) = true then (if (t228.length : Int) = 0 then (if (t234.length : Int) = 0 then (if (t237.length : Int) = 0 then ((changeforgelaw1_split.f).bind fun t249 => (some t249)) else (some false)) else (some false)) else (some false)) else (some false))) else (some false)))))) = some r := H;have A4 := Aside0.mk A40;clear A40;replace H := Option.bind_eq_some_iff.mp H;obtain ⟨t243, A50, H⟩ := H;replace H : ((changeforgeref1_One.f a1).bind fun t244 => (if t243 = 0 then (if t231 = 0 then ((changeforgeref1_Tokens.f k a0).bind fun t250 => ((changeforgeequal_Strings.f t228 t250).bind fun t253 => (changeforgelaw1_WorddiffMatchesSpec.j0 k a0 a1 t234 t237 t244 (!t253) t240 t241))) else (changeforgelaw1_WorddiffMatchesSpec.j0 k a0 a1 t234 t237 t244 true t240 t241)) else ((changeforgeref1_At.f t243 0).bind fun bt245 => (if (t231 == bt245.1 && (t232 == bt245.2)) = true then ((changeforgeref1_At.f t243 0).bind fun bt247 => (if (t240 == bt247.1 && (t241 == bt247.2)) = true then (if (t228.length : Int) = 0 then (if (t234.length : Int) = 0 then (if (t237.length : Int) = 0 then ((changeforgelaw1_split.f).bind fun t249 => (some t249)) else (some false)) else (some false)) else (some false)) else (some false))) else (some false))))) = some r := H;have A5 := Aside0.mk A50;clear A50;replace H := Option.bind_eq_some_iff.mp H;obtain ⟨t244, A60, H⟩ := H;replace H : (if t243 = 0 then (if t231 = 0 then ((changeforgeref1_Tokens.f k a0).bind fun t250 => ((changeforgeequal_Strings.f t228 t250).bind fun t253 => (changeforgelaw1_WorddiffMatchesSpec.j0 k a0 a1 t234 t237 t244 (!t253) t240 t241))) else (changeforgelaw1_WorddiffMatchesSpec.j0 k a0 a1 t234 t237 t244 true t240 t241)) else ((changeforgeref1_At.f t243 0).bind fun bt245 => (if (t231 == bt245.1 && (t232 == bt245.2)) = true then ((changeforgeref1_At.f t243 0).bind fun bt247 => (if (t240 == bt247.1 && (t241 == bt247.2)) = true then (if (t228.length : Int) = 0 then (if (t234.length : Int) = 0 then (if (t237.length : Int) = 0 then ((changeforgelaw1_split.f).bind fun t249 => (some t249)) else (some false)) else (some false)) else (some false)) else (some false))) else (some false)))) = some r := H;have A6 := Aside0.mk A60;clear A60
  by_cases c7 : t243 = 0
  · rw [if_pos c7] at H;have c7b0 : (t243 == 0) = true := beq_iff_eq.mpr c7;have c7b1 : (t243 != 0) = false := bne_eq_false_iff_eq.mpr c7;clear c7;have HC8 := Aside0.mk H;clear H
    go_enter Try.func11, Try.ntmps11
    go_upto_region 7 with (first|((with_reducible refine gate_callee (f := 31) rfl ?_);refine goesL_ (some 16) rfl rfl Try.func31 (by kernel_rfl) rfl #[.string a0] rfl mA ?_;(with_reducible refine (worddiff_Tokens.calls a0 t228 t231 t232 _ A3.out).mono ?_);rintro e w9 ⟨v229, rfl, ho0, hb⟩;refine ⟨_, rfl, ?_⟩;have HO230 := Aside0.mk (Kd.R_lower ho0 (below_size eB));replace HB := sBe HB hb;(try clear hb ho0))|((with_reducible refine gate_dst (N := 6) rfl ?_);(try (refine gate_guard (by rfl) ?_;dsimp only));refine bE 6 #[.int .i64 0, .int .i64 0] 24 ?_;intro gb233 hg w10 hbox hb;have BK233 := Aside0.mk (hbox);have GW233 := gBe HB hg;have GE233 := gBe HB hg;replace HO230 := rL HO230 hb;replace HB := sBe HB hb;clear hb hbox hg;have hcz11_0 := hC BK233 0 (.int .i64 0);have hcz11_1 := hC BK233 1 (.int .i64 0);have hfz11_0 := blk_frozen BK233.out 0;have hfz11_1 := blk_frozen BK233.out 1)|((with_reducible refine gate_callee (f := 34) rfl ?_);refine goesL_ (some 22) rfl rfl Try.func34 (by kernel_rfl) rfl #[.string a0, .string a1] rfl mA ?_;(with_reducible refine (worddiff_Highlight.calls a0 a1 t234 t237 t240 t241 _ A4.out).mono ?_);rintro e w12 ⟨v235, v238, rfl, ho0, ho1, hb⟩;refine ⟨_, rfl, ?_⟩;have HO236 := Aside0.mk (Kd.R_lower ho0 (below_size eB));have HO239 := Aside0.mk (Kd.R_lower ho1 (below_size eB));replace HO230 := Aside0.mk (Kd.R_below (by (with_reducible repeat first|apply rA|apply rN|apply rD);exact (Kd.R_mono (Kd.R_far (p := ⟨gb233, 1, none⟩) (Kd.R_far (p := ⟨gb233, 0, none⟩) (Kd.R_types HO230.out BK233.out (by decide)) (fun _ hk => hk.2) (.int .i64 t231)) (fun _ hk => hk.2) (.int .i64 t232)) (fun _ h_ => h_.1))) hb);replace BK233 := lK gb233 24 #[.int .i64 t231, .int .i64 t232] hb;replace HB := sBe HB hb;(try clear hb ho0 ho1))|((with_reducible refine gate_dst (N := 9) rfl ?_);(try (refine gate_guard (by rfl) ?_;dsimp only));refine bE 9 #[.int .i64 0, .int .i64 0] 24 ?_;intro gb242 hg w13 hbox hb;have BK242 := Aside0.mk (hbox);have GW242 := gBe HB hg;have GE242 := gBe HB hg;have NB233_242 := nL BK233 hg;have NB242_233 := nG BK233 hg;replace HO230 := rL HO230 hb;replace HO236 := rL HO236 hb;replace HO239 := rL HO239 hb;replace BK233 := lJ BK233 hb;replace HB := sBe HB hb;clear hb hbox hg;have hnb14 := eq_false NB242_233.out;have hnc14 := eq_false NB233_242.out;have hcz15_0 := hC BK242 0 (.int .i64 0);have hcz15_1 := hC BK242 1 (.int .i64 0);have hfz15_0 := blk_frozen BK242.out 0;have hfz15_1 := blk_frozen BK242.out 1)|((with_reducible refine gate_callee (f := 35) rfl ?_);refine goesL_ (some 27) rfl rfl Try.func35 (by kernel_rfl) rfl #[.string a0] rfl mA ?_;(with_reducible refine (changeforgeref1_One.calls a0 t243 _ A5.out).mono ?_);rintro e w16 ⟨rfl, hb⟩;refine ⟨_, rfl, ?_⟩;replace HO230 := Aside0.mk (Kd.R_below (by (with_reducible repeat first|apply rA|apply rN|apply rD);exact (Kd.R_mono (Kd.R_far (p := ⟨gb242, 1, none⟩) (Kd.R_far (p := ⟨gb242, 0, none⟩) (Kd.R_types HO230.out BK242.out (by decide)) (fun _ hk => hk.2) (.int .i64 t240)) (fun _ hk => hk.2) (.int .i64 t241)) (fun _ h_ => h_.1))) hb);replace HO236 := Aside0.mk (Kd.R_below (by (with_reducible repeat first|apply rA|apply rN|apply rD);exact (Kd.R_mono (Kd.R_far (p := ⟨gb242, 1, none⟩) (Kd.R_far (p := ⟨gb242, 0, none⟩) (Kd.R_types HO236.out BK242.out (by decide)) (fun _ hk => hk.2) (.int .i64 t240)) (fun _ hk => hk.2) (.int .i64 t241)) (fun _ h_ => h_.1))) hb);replace HO239 := Aside0.mk (Kd.R_below (by (with_reducible repeat first|apply rA|apply rN|apply rD);exact (Kd.R_mono (Kd.R_far (p := ⟨gb242, 1, none⟩) (Kd.R_far (p := ⟨gb242, 0, none⟩) (Kd.R_types HO239.out BK242.out (by decide)) (fun _ hk => hk.2) (.int .i64 t240)) (fun _ hk => hk.2) (.int .i64 t241)) (fun _ h_ => h_.1))) hb);replace BK233 := lJ BK233 hb;replace BK242 := lK gb242 24 #[.int .i64 t240, .int .i64 t241] hb;replace HB := sBe HB hb;(try clear hb))|((with_reducible refine gate_callee (f := 35) rfl ?_);refine goesL_ (some 29) rfl rfl Try.func35 (by kernel_rfl) rfl #[.string a1] rfl mA ?_;(with_reducible refine (changeforgeref1_One.calls a1 t244 _ A6.out).mono ?_);rintro e w17 ⟨rfl, hb⟩;refine ⟨_, rfl, ?_⟩;replace HO230 := rL HO230 hb;replace HO236 := rL HO236 hb;replace HO239 := rL HO239 hb;replace BK233 := lJ BK233 hb;replace BK242 := lJ BK242 hb;replace HB := sBe HB hb;(try clear hb)))
    (try simp only [Act.put, sA, sB, sC])
    go_cut [69] (fun v69 wc => ∃ (kq : Nat) (x69_7 : Bool), v69 = .bool x69_7 ∧ Aside0 (changeforgelaw1_WorddiffMatchesSpec.j0 kq a0 a1 t234 t237 t244 x69_7 t240 t241 = some r) ∧ Aside0 (kq ≤ k) ∧ Aside0 (Kd.R k95 95 wc w.heap.size (fun k_ => some k_ ≠ (v238 : Value).ownBlock) v235 t234) ∧ Aside0 (Kd.R k95 95 wc w.heap.size (fun k_ => some k_ ≠ (v235 : Value).ownBlock) v238 t237) ∧ Aside0 (wc.heap[gb233]? = some (.cells #[.int .i64 t231, .int .i64 t232] 24 (0, 0))) ∧ Aside0 (wc.heap[gb242]? = some (.cells #[.int .i64 t240, .int .i64 t241] 24 (0, 0))) ∧ Aside0 (Below w.heap.size w wc))
    case first =>
      have H := HC8.out;clear HC8
      by_cases c18 : t231 = 0
      · rw [if_pos c18] at H;have c18b0 : (t231 == 0) = true := beq_iff_eq.mpr c18;have c18b1 : (t231 != 0) = false := bne_eq_false_iff_eq.mpr c18;clear c18
        (first|rw [c18b0]|(simp only [i64_w, i32_w];rw [c18b0])|skip)
        replace H := Option.bind_eq_some_iff.mp H;obtain ⟨t250, A190, H⟩ := H;replace H : ((changeforgeequal_Strings.f t228 t250).bind fun t253 => (changeforgelaw1_WorddiffMatchesSpec.j0 k a0 a1 t234 t237 t244 (!t253) t240 t241)) = some r := H;have A19 := Aside0.mk A190;clear A190;replace H := Option.bind_eq_some_iff.mp H;obtain ⟨t253, A200, H⟩ := H;replace H : (changeforgelaw1_WorddiffMatchesSpec.j0 k a0 a1 t234 t237 t244 (!t253) t240 t241) = some r := H;have A20 := Aside0.mk A200;clear A200;have H' := Aside0.mk H;clear H;have hnb21 := eq_false NB233_242.out;have hnc21 := eq_false NB242_233.out;have hcz22_0 := hC BK233 0 (.int .i64 t231);have hcz22_1 := hC BK233 1 (.int .i64 t232);have hfz22_0 := blk_frozen BK233.out 0;have hfz22_1 := blk_frozen BK233.out 1
        go_wp2_with (first|(go_at_call 37;(with_reducible refine (changeforgeref1_Tokens.calls k a0 t250 _ A19.out).mono ?_);rintro e w23 ⟨v251, rfl, ho0, hb⟩;have HO252 := Aside0.mk (Kd.R_lower (Kd.R_new' ho0 (Kd.R_lt (rK HO230))) (below_size eB));replace HO230 := Aside0.mk (Kd.R_elder' (rK HO230) (Kd.R_base ho0) hb);replace HO236 := rL HO236 hb;replace HO239 := rL HO239 hb;replace BK233 := lJ BK233 hb;replace BK242 := lJ BK242 hb;replace HB := sBe HB hb;(try clear hb ho0);obtain ⟨Ao24, co24, eo24⟩ := Kd.R_slice HO230.out;subst eo24;obtain ⟨Ao25, co25, eo25⟩ := Kd.R_slice HO252.out;subst eo25)|(go_at_call 17;(with_reducible refine (changeforgeequal_Strings.calls _ _ t228 _ _ t250 t253 _ ?side1 ?side2 ?side3 ?side4 A20.out).mono ?_);(case side1 => repeat (first|exact (Kd.R_reads' HO230.out).2.2|(with_reducible refine Kd.C_alloc ?_ _)|(with_reducible refine Kd.C_drewN ?_ _)|(with_reducible refine Kd.C_drew ?_)));(case side2 => exact (Kd.R_reads' HO230.out).2.1);(case side3 => repeat (first|exact (Kd.R_reads' HO252.out).2.2|(with_reducible refine Kd.C_alloc ?_ _)|(with_reducible refine Kd.C_drewN ?_ _)|(with_reducible refine Kd.C_drew ?_)));(case side4 => exact (Kd.R_reads' HO252.out).2.1);rintro e w' ⟨rfl, ⟨nd, rfl⟩⟩))
        go_meet
        case rel => exact ⟨_, (!t253), (by first|rfl|(simp only [i64_w, i32_w];done)|(simp only [i64_w, i32_w];rfl)|(simp;done)|(simp [*];done)), H', ⟨by first|omega|exact Nat.le_refl _⟩, ⟨by (with_reducible repeat first|apply rA|apply rN|apply rD);exact HO236.out⟩, ⟨by (with_reducible repeat first|apply rA|apply rN|apply rD);exact HO239.out⟩, ⟨kK⟩, ⟨kK⟩, ⟨eB⟩⟩
      · rw [if_neg c18] at H;have c18b0 : (t231 == 0) = false := beq_eq_false_iff_ne.mpr c18;have c18b1 : (t231 != 0) = true := bne_iff_ne.mpr c18
        (first|rw [c18b0]|(simp only [i64_w, i32_w];rw [c18b0])|skip)
        have H' := Aside0.mk H;clear H;have hnb26 := eq_false NB233_242.out;have hnc26 := eq_false NB242_233.out;have hcz27_0 := hC BK233 0 (.int .i64 t231);have hcz27_1 := hC BK233 1 (.int .i64 t232);have hfz27_0 := blk_frozen BK233.out 0;have hfz27_1 := blk_frozen BK233.out 1
        go_wp2
        go_meet
        case rel => exact ⟨_, (true), (by first|rfl|(simp only [i64_w, i32_w];done)|(simp only [i64_w, i32_w];rfl)|(simp;done)|(simp [*];done)), H', ⟨by first|omega|exact Nat.le_refl _⟩, ⟨by (with_reducible repeat first|apply rA|apply rN|apply rD);exact HO236.out⟩, ⟨by (with_reducible repeat first|apply rA|apply rN|apply rD);exact HO239.out⟩, ⟨kK⟩, ⟨kK⟩, ⟨eB⟩⟩
    case rest =>
      clear HC8
      try clear c1
      try clear c2
      try clear p2
      try clear c3
      try clear c7
      try clear c7b0
      try clear c7b1
      try clear c11
      try clear c14
      try clear c18
      try clear c18b0
      try clear c18b1
      try clear c21
      try clear c26
      try clear hcz11_0
      try clear hcz11_1
      try clear hcz15_0
      try clear hcz15_1
      try clear hcz22_0
      try clear hcz22_1
      try clear hcz27_0
      try clear hcz27_1
      try clear hfz11_0
      try clear hfz11_1
      try clear hfz15_0
      try clear hfz15_1
      try clear hfz22_0
      try clear hfz22_1
      try clear hfz27_0
      try clear hfz27_1
      obtain ⟨kq, x69_7, rfl, HA, HJ7, HO_7, HO_8, BK233, BK242, HB⟩ := hcut
      cases kq with
      | zero => exact absurd HA.out (by simp [changeforgelaw1_WorddiffMatchesSpec.j0])
      | succ kj7 =>
        have H := HA.out;clear HA;simp only [changeforgelaw1_WorddiffMatchesSpec.j0] at H
        by_cases c28 : x69_7 = true
        · subst c28;have H1 : (some false) = some r := (by rw [if_pos rfl] at H;exact H);clear H;have H := H1;clear H1;obtain rfl := Option.some.inj H;exact absurd hrt (by decide)
        · replace c28 := Bool.eq_false_iff.mpr c28;subst c28;have H1 : (if t244 = 0 then ((changeforgeref1_Highlight.f kj7 a0 a1).bind fun bt257 => (if t240 = 0 then ((changeforgeequal_Pairs.f kj7 t234 bt257.1).bind fun t263 => (if t263 = true then ((changeforgeequal_Pairs.f kj7 t237 bt257.2).bind fun t264 => (if t264 = true then ((changeforgelaw1_split.f).bind fun t265 => (some t265)) else (some false))) else (some false))) else (some false))) else ((changeforgeref1_At.f t244 1).bind fun bt254 => (if (t240 == bt254.1 && (t241 == bt254.2)) = true then (if (t234.length : Int) = 0 then (if (t237.length : Int) = 0 then ((changeforgelaw1_split.f).bind fun t256 => (some t256)) else (some false)) else (some false)) else (some false)))) = some r := (by rw [if_neg (show ¬ (false = true) by decide)] at H;exact H);clear H;have H := H1;clear H1
          by_cases c29 : t244 = 0
          · rw [if_pos c29] at H;have c29b0 : (t244 == 0) = true := beq_iff_eq.mpr c29;have c29b1 : (t244 != 0) = false := bne_eq_false_iff_eq.mpr c29;clear c29;replace H := Option.bind_eq_some_iff.mp H;obtain ⟨⟨t257, t258⟩, A300, H⟩ := H;replace H : (if t240 = 0 then ((changeforgeequal_Pairs.f kj7 t234 t257).bind fun t263 => (if t263 = true then ((changeforgeequal_Pairs.f kj7 t237 t258).bind fun t264 => (if t264 = true then ((changeforgelaw1_split.f).bind fun t265 => (some t265)) else (some false))) else (some false))) else (some false)) = some r := H;have A30 := Aside0.mk A300;clear A300
            by_cases c31 : t240 = 0
            · rw [if_pos c31] at H;have c31b0 : (t240 == 0) = true := beq_iff_eq.mpr c31;have c31b1 : (t240 != 0) = false := bne_eq_false_iff_eq.mpr c31;clear c31;replace H := Option.bind_eq_some_iff.mp H;obtain ⟨t263, A320, H⟩ := H;replace H : (if t263 = true then ((changeforgeequal_Pairs.f kj7 t237 t258).bind fun t264 => (if t264 = true then ((changeforgelaw1_split.f).bind fun t265 => (some t265)) else (some false))) else (some false)) = some r := H;have A32 := Aside0.mk A320;clear A320
              by_cases c33 : t263 = true
              · subst c33;have H1 : ((changeforgeequal_Pairs.f kj7 t237 t258).bind fun t264 => (if t264 = true then ((changeforgelaw1_split.f).bind fun t265 => (some t265)) else (some false))) = some r := (by rw [if_pos rfl] at H;exact H);clear H;have H := H1;clear H1;replace H := Option.bind_eq_some_iff.mp H;obtain ⟨t264, A340, H⟩ := H;replace H : (if t264 = true then ((changeforgelaw1_split.f).bind fun t265 => (some t265)) else (some false)) = some r := H;have A34 := Aside0.mk A340;clear A340
                by_cases c35 : t264 = true
                · subst c35;have H1 : ((changeforgelaw1_split.f).bind fun t265 => (some t265)) = some r := (by rw [if_pos rfl] at H;exact H);clear H;have H := H1;clear H1;replace H := Option.bind_eq_some_iff.mp H;obtain ⟨t265, A360, H⟩ := H;replace H : (some t265) = some r := H;have A36 := Aside0.mk A360;clear A360;obtain rfl := Option.some.inj H
                  go_wp2_with (first|((with_reducible refine gate_callee (f := 38) rfl ?_);refine goesL_ (some 92) rfl rfl Try.func38 (by kernel_rfl) rfl #[.string a0, .string a1] rfl mA ?_;(with_reducible refine (changeforgeref1_Highlight.calls kj7 a0 a1 t257 t258 _ A30.out).mono ?_);rintro e w37 ⟨v259, v261, rfl, ho0, ho1, hb⟩;refine ⟨_, rfl, ?_⟩;have HO260 := Aside0.mk (Kd.R_lower (Kd.R_new' (Kd.R_new' ho0 (Kd.R_lt (rK HO_7))) (Kd.R_lt (rK HO_8))) (below_size eB));have HO262 := Aside0.mk (Kd.R_lower (Kd.R_new' (Kd.R_new' ho1 (Kd.R_lt (rK HO_7))) (Kd.R_lt (rK HO_8))) (below_size eB));replace HO_7 := Aside0.mk (Kd.R_mono (Kd.R_told (Kd.R_told (Kd.R_old (rK HO_7) hb) (Kd.R_base ho0)) (Kd.R_base ho1)) (fun _ h_ => h_.1));replace HO_8 := Aside0.mk (Kd.R_mono (Kd.R_told (Kd.R_told (Kd.R_old (rK HO_8) hb) (Kd.R_base ho0)) (Kd.R_base ho1)) (fun _ h_ => h_.1));replace BK233 := lJ BK233 hb;replace BK242 := lJ BK242 hb;replace HB := sBe HB hb;(try clear hb ho0 ho1);have hnb38 := eq_false NB242_233.out;have hnc38 := eq_false NB233_242.out;have hcz39_0 := hC BK242 0 (.int .i64 t240);have hcz39_1 := hC BK242 1 (.int .i64 t241);have hfz39_0 := blk_frozen BK242.out 0;have hfz39_1 := blk_frozen BK242.out 1;obtain ⟨Ao40, co40, eo40⟩ := Kd.R_slice HO_7.out;subst eo40;obtain ⟨Ao41, co41, eo41⟩ := Kd.R_slice HO260.out;subst eo41)|(go_at_call 39;(with_reducible refine (changeforgeequal_Pairs.calls kj7 _ _ t234 _ _ t257 true _ ?side1 ?side2 ?side3 ?side4 A32.out).mono ?_);(case side1 => repeat (first|exact (Kd.R_reads' HO_7.out).2.2|(with_reducible refine Kd.C_alloc ?_ _)|(with_reducible refine Kd.C_drewN ?_ _)|(with_reducible refine Kd.C_drew ?_)));(case side2 => exact (Kd.R_reads' HO_7.out).2.1);(case side3 => repeat (first|exact (Kd.R_reads' HO260.out).2.2|(with_reducible refine Kd.C_alloc ?_ _)|(with_reducible refine Kd.C_drewN ?_ _)|(with_reducible refine Kd.C_drew ?_)));(case side4 => exact (Kd.R_reads' HO260.out).2.1);rintro e w' ⟨rfl, ⟨nd, rfl⟩⟩;obtain ⟨Ao42, co42, eo42⟩ := Kd.R_slice HO_8.out;subst eo42;obtain ⟨Ao43, co43, eo43⟩ := Kd.R_slice HO262.out;subst eo43)|(go_at_call 39;(with_reducible refine (changeforgeequal_Pairs.calls kj7 _ _ t237 _ _ t258 true _ ?side1 ?side2 ?side3 ?side4 A34.out).mono ?_);(case side1 => repeat (first|exact (Kd.R_reads' HO_8.out).2.2|(with_reducible refine Kd.C_alloc ?_ _)|(with_reducible refine Kd.C_drewN ?_ _)|(with_reducible refine Kd.C_drew ?_)));(case side2 => exact (Kd.R_reads' HO_8.out).2.1);(case side3 => repeat (first|exact (Kd.R_reads' HO262.out).2.2|(with_reducible refine Kd.C_alloc ?_ _)|(with_reducible refine Kd.C_drewN ?_ _)|(with_reducible refine Kd.C_drew ?_)));(case side4 => exact (Kd.R_reads' HO262.out).2.1);rintro e w' ⟨rfl, ⟨nd, rfl⟩⟩)|(go_at_call 32;(with_reducible refine (changeforgelaw1_split.calls  t265 _ A36.out).mono ?_);rintro e w44 ⟨rfl, hb⟩;replace HO_7 := rL HO_7 hb;replace HO_8 := rL HO_8 hb;replace HO260 := rL HO260 hb;replace HO262 := rL HO262 hb;replace BK233 := lJ BK233 hb;replace BK242 := lJ BK242 hb;replace HB := sBe HB hb;(try clear hb)))
                  go_ret
                  exact ⟨rW, eB⟩
                · replace c35 := Bool.eq_false_iff.mpr c35;subst c35;have H1 : (some false) = some r := (by rw [if_neg (show ¬ (false = true) by decide)] at H;exact H);clear H;have H := H1;clear H1;obtain rfl := Option.some.inj H;exact absurd hrt (by decide)
              · replace c33 := Bool.eq_false_iff.mpr c33;subst c33;have H1 : (some false) = some r := (by rw [if_neg (show ¬ (false = true) by decide)] at H;exact H);clear H;have H := H1;clear H1;obtain rfl := Option.some.inj H;exact absurd hrt (by decide)
            · rw [if_neg c31] at H;have c31b0 : (t240 == 0) = false := beq_eq_false_iff_ne.mpr c31;have c31b1 : (t240 != 0) = true := bne_iff_ne.mpr c31;obtain rfl := Option.some.inj H;exact absurd hrt (by decide)
          · rw [if_neg c29] at H;have c29b0 : (t244 == 0) = false := beq_eq_false_iff_ne.mpr c29;have c29b1 : (t244 != 0) = true := bne_iff_ne.mpr c29;replace H := Option.bind_eq_some_iff.mp H;obtain ⟨⟨t254, t255⟩, A600, H⟩ := H;replace H : (if (t240 == t254 && (t241 == t255)) = true then (if (t234.length : Int) = 0 then (if (t237.length : Int) = 0 then ((changeforgelaw1_split.f).bind fun t256 => (some t256)) else (some false)) else (some false)) else (some false)) = some r := H;have A60 := Aside0.mk A600;clear A600
            by_cases c61 : (t240 == t254 && (t241 == t255)) = true
            · rw [if_pos c61] at H;have c61b0 : (t240 == t254 && (t241 == t255)) = true := c61;(try (have c61b1 : decide (t240 = t254 && (t241 == t255)) = true := by simpa using c61));(try (have c61b2 : (t240 == t254 && (t241 == t255)) = true := by simpa using c61));clear c61
              by_cases c62 : (t234.length : Int) = 0
              · rw [if_pos c62] at H;have c62b0 : ((t234.length : Int) == 0) = true := beq_iff_eq.mpr c62;have c62b1 : ((t234.length : Int) != 0) = false := bne_eq_false_iff_eq.mpr c62;clear c62
                by_cases c63 : (t237.length : Int) = 0
                · rw [if_pos c63] at H;have c63b0 : ((t237.length : Int) == 0) = true := beq_iff_eq.mpr c63;have c63b1 : ((t237.length : Int) != 0) = false := bne_eq_false_iff_eq.mpr c63;clear c63;replace H := Option.bind_eq_some_iff.mp H;obtain ⟨t256, A640, H⟩ := H;replace H : (some t256) = some r := H;have A64 := Aside0.mk A640;clear A640;obtain rfl := Option.some.inj H
                  try go_wp2
                  replace HO_7 := Aside0.mk (Kd.R_drew HO_7.out);replace HO_8 := Aside0.mk (Kd.R_drew HO_8.out);replace BK233 := Aside0.mk (blk_drew BK233.out);replace BK242 := Aside0.mk (blk_drew BK242.out);replace HB := Aside0.mk (below_drew1 HB.out);refine start_ (n := 18) (S := fun w' => w'.cell? ⟨gb242, 0, none⟩ = some (.int .i64 t240) ∧ w'.cell? ⟨gb242, 1, none⟩ = some (.int .i64 t241)) (ds := []) (mb 18 0) (by kernel_rfl) rfl (by kernel_rfl) ⟨(blk_cell BK242.out 0).trans rfl, (blk_cell BK242.out 1).trans rfl⟩ (fun hHeld => ?_);refine with_tabW changeforgelaw1_WorddiffMatchesSpec.tab10 changeforgelaw1_WorddiffMatchesSpec.bits10 (fun HT_ HW_ => ?_);generalize wc.drew = w65 at HO_7 HO_8 BK233 BK242 HB hHeld ⊢;refine pA 1 73 (mb 18 2) HT_ rfl rfl ?_;refine tA 0 72 (mb 18 3) HT_ HW_ hHeld rfl rfl (by rintro w' ⟨s0, s1⟩;go_simp;with_reducible rfl) ?_;refine one_ (i := 2) (N := some 74) (mb 18 7) rfl rfl (one_of HT_.out (by kernel_rfl)) (by decide) (fun K hK => ?_);refine goes_ Try.func36 (by kernel_rfl) rfl #[.int .i64 t244, .int .i64 1] (by rfl) rfl rfl mA ?_
                  with_reducible refine (changeforgeref1_At.calls t244 1 t254 t255 _ A60.out).mono ?_
                  rintro e w66 ⟨rfl, hb⟩
                  refine ⟨_, rfl, ?_⟩;replace HO_7 := rL HO_7 hb;replace HO_8 := rL HO_8 hb;replace BK233 := lJ BK233 hb;replace BK242 := lJ BK242 hb;replace HB := sBe HB hb;(try clear hb);obtain ⟨Ao67, co67, eo67⟩ := Kd.R_slice HO_7.out
                  (first|subst eo67|(injection eo67 with f1_ f2_ f3_;have f4_ := f1_.symm;have f5_ := f3_.symm;clear f1_ f2_ f3_;subst f4_;subst f5_))
                  obtain ⟨Ao68, co68, eo68⟩ := Kd.R_slice HO_8.out
                  (first|subst eo68|(injection eo68 with f1_ f2_ f3_;have f4_ := f1_.symm;have f5_ := f3_.symm;clear f1_ f2_ f3_;subst f4_;subst f5_))
                  refine hK.out _ _ ⟨(blk_cell BK242.out 0).trans rfl, (blk_cell BK242.out 1).trans rfl⟩ (fun hHeld => ?_);clear hK K;refine nmA (some 74) ?_;refine pA 3 75 (mb 18 15) HT_ rfl rfl ?_;refine pA 4 76 (mb 18 31) HT_ rfl rfl ?_;refine pA 5 77 (mb 18 63) HT_ rfl rfl ?_;refine pA 6 78 (mb 18 127) HT_ rfl rfl ?_;refine pA 7 79 (mb 18 255) HT_ rfl rfl ?_;refine pA 8 80 (mb 18 511) HT_ rfl rfl ?_;refine pA 9 81 (mb 18 1023) HT_ rfl rfl ?_;refine pA 10 82 (mb 18 2047) HT_ rfl rfl ?_;refine pA 11 83 (mb 18 4095) HT_ rfl rfl ?_;refine pA 12 84 (mb 18 8191) HT_ rfl rfl ?_;refine pA 13 85 (mb 18 16383) HT_ rfl rfl ?_;refine pA 14 86 (mb 18 32767) HT_ rfl rfl ?_;refine one_ (i := 15) (N := some 87) (mb 18 65535) rfl rfl (one_of HT_.out (by kernel_rfl)) (by decide) (fun K hK => ?_);refine goes_ Try.func32 (by kernel_rfl) rfl #[] (by rfl) rfl rfl mA ?_
                  with_reducible refine (changeforgelaw1_split.calls  t256 _ A64.out).mono ?_
                  rintro e w69 ⟨rfl, hb⟩
                  refine ⟨_, rfl, ?_⟩;replace HO_7 := rL HO_7 hb;replace HO_8 := rL HO_8 hb;replace BK233 := lJ BK233 hb;replace BK242 := lJ BK242 hb;replace HB := sBe HB hb;(try clear hb);refine hK.out _ _ ⟨(blk_cell BK242.out 0).trans rfl, (blk_cell BK242.out 1).trans rfl⟩ (fun hHeld => ?_);clear hK K;refine nmA (some 87) ?_;refine pA 16 88 (mb 18 131071) HT_ rfl rfl ?_;refine pA 17 4 (mb 18 262143) HT_ rfl rfl ?_;refine done_ (done_of HT_.out (by kernel_rfl)) ?_
                  try go_wp2
                  go_ret
                  exact ⟨rW, eB⟩
                · rw [if_neg c63] at H;have c63b0 : ((t237.length : Int) == 0) = false := beq_eq_false_iff_ne.mpr c63;have c63b1 : ((t237.length : Int) != 0) = true := bne_iff_ne.mpr c63;have c63b2 : ¬ (t237 = []) := (fun h_ => c63 (by rw [h_];rfl));obtain rfl := Option.some.inj H;exact absurd hrt (by decide)
              · rw [if_neg c62] at H;have c62b0 : ((t234.length : Int) == 0) = false := beq_eq_false_iff_ne.mpr c62;have c62b1 : ((t234.length : Int) != 0) = true := bne_iff_ne.mpr c62;have c62b2 : ¬ (t234 = []) := (fun h_ => c62 (by rw [h_];rfl));obtain rfl := Option.some.inj H;exact absurd hrt (by decide)
            · rw [if_neg c61] at H;have c61b0 : (t240 == t254 && (t241 == t255)) = false := (by simpa using c61);(try (have c61b1 : decide (t240 = t254 && (t241 == t255)) = false := by simpa using c61));(try (have c61b2 : (t240 == t254 && (t241 == t255)) = false := by simpa using c61));(try (have c61b3 : ¬ (t240 = t254 && (t241 == t255)) := by simpa using c61));clear c61;obtain rfl := Option.some.inj H;exact absurd hrt (by decide)
  · rw [if_neg c7] at H;have c7b0 : (t243 == 0) = false := beq_eq_false_iff_ne.mpr c7;have c7b1 : (t243 != 0) = true := bne_iff_ne.mpr c7;replace H := Option.bind_eq_some_iff.mp H;obtain ⟨⟨t245, t246⟩, A790, H⟩ := H;replace H : (if (t231 == t245 && (t232 == t246)) = true then ((changeforgeref1_At.f t243 0).bind fun bt247 => (if (t240 == bt247.1 && (t241 == bt247.2)) = true then (if (t228.length : Int) = 0 then (if (t234.length : Int) = 0 then (if (t237.length : Int) = 0 then ((changeforgelaw1_split.f).bind fun t249 => (some t249)) else (some false)) else (some false)) else (some false)) else (some false))) else (some false)) = some r := H;have A79 := Aside0.mk A790;clear A790
    by_cases c80 : (t231 == t245 && (t232 == t246)) = true
    · rw [if_pos c80] at H;have c80b0 : (t231 == t245 && (t232 == t246)) = true := c80;(try (have c80b1 : decide (t231 = t245 && (t232 == t246)) = true := by simpa using c80));(try (have c80b2 : (t231 == t245 && (t232 == t246)) = true := by simpa using c80));clear c80;replace H := Option.bind_eq_some_iff.mp H;obtain ⟨⟨t247, t248⟩, A810, H⟩ := H;replace H : (if (t240 == t247 && (t241 == t248)) = true then (if (t228.length : Int) = 0 then (if (t234.length : Int) = 0 then (if (t237.length : Int) = 0 then ((changeforgelaw1_split.f).bind fun t249 => (some t249)) else (some false)) else (some false)) else (some false)) else (some false)) = some r := H;have A81 := Aside0.mk A810;clear A810
      by_cases c82 : (t240 == t247 && (t241 == t248)) = true
      · rw [if_pos c82] at H;have c82b0 : (t240 == t247 && (t241 == t248)) = true := c82;(try (have c82b1 : decide (t240 = t247 && (t241 == t248)) = true := by simpa using c82));(try (have c82b2 : (t240 == t247 && (t241 == t248)) = true := by simpa using c82));clear c82
        by_cases c83 : (t228.length : Int) = 0
        · rw [if_pos c83] at H;have c83b0 : ((t228.length : Int) == 0) = true := beq_iff_eq.mpr c83;have c83b1 : ((t228.length : Int) != 0) = false := bne_eq_false_iff_eq.mpr c83;clear c83
          by_cases c84 : (t234.length : Int) = 0
          · rw [if_pos c84] at H;have c84b0 : ((t234.length : Int) == 0) = true := beq_iff_eq.mpr c84;have c84b1 : ((t234.length : Int) != 0) = false := bne_eq_false_iff_eq.mpr c84;clear c84
            by_cases c85 : (t237.length : Int) = 0
            · rw [if_pos c85] at H;have c85b0 : ((t237.length : Int) == 0) = true := beq_iff_eq.mpr c85;have c85b1 : ((t237.length : Int) != 0) = false := bne_eq_false_iff_eq.mpr c85;clear c85;replace H := Option.bind_eq_some_iff.mp H;obtain ⟨t249, A860, H⟩ := H;replace H : (some t249) = some r := H;have A86 := Aside0.mk A860;clear A860;obtain rfl := Option.some.inj H
              go_enter Try.func11, Try.ntmps11
              try go_wp2_with (first|((with_reducible refine gate_callee (f := 31) rfl ?_);refine goesL_ (some 16) rfl rfl Try.func31 (by kernel_rfl) rfl #[.string a0] rfl mA ?_;(with_reducible refine (worddiff_Tokens.calls a0 t228 t231 t232 _ A3.out).mono ?_);rintro e w87 ⟨v229, rfl, ho0, hb⟩;refine ⟨_, rfl, ?_⟩;have HO230 := Aside0.mk (Kd.R_lower ho0 (below_size eB));replace HB := sBe HB hb;(try clear hb ho0))|((with_reducible refine gate_dst (N := 6) rfl ?_);(try (refine gate_guard (by rfl) ?_;dsimp only));refine bE 6 #[.int .i64 0, .int .i64 0] 24 ?_;intro gb233 hg w88 hbox hb;have BK233 := Aside0.mk (hbox);have GW233 := gBe HB hg;have GE233 := gBe HB hg;replace HO230 := rL HO230 hb;replace HB := sBe HB hb;clear hb hbox hg;have hcz89_0 := hC BK233 0 (.int .i64 0);have hcz89_1 := hC BK233 1 (.int .i64 0);have hfz89_0 := blk_frozen BK233.out 0;have hfz89_1 := blk_frozen BK233.out 1)|((with_reducible refine gate_callee (f := 34) rfl ?_);refine goesL_ (some 22) rfl rfl Try.func34 (by kernel_rfl) rfl #[.string a0, .string a1] rfl mA ?_;(with_reducible refine (worddiff_Highlight.calls a0 a1 t234 t237 t240 t241 _ A4.out).mono ?_);rintro e w90 ⟨v235, v238, rfl, ho0, ho1, hb⟩;refine ⟨_, rfl, ?_⟩;have HO236 := Aside0.mk (Kd.R_lower ho0 (below_size eB));have HO239 := Aside0.mk (Kd.R_lower ho1 (below_size eB));replace HO230 := Aside0.mk (Kd.R_below (by (with_reducible repeat first|apply rA|apply rN|apply rD);exact (Kd.R_mono (Kd.R_far (p := ⟨gb233, 1, none⟩) (Kd.R_far (p := ⟨gb233, 0, none⟩) (Kd.R_types HO230.out BK233.out (by decide)) (fun _ hk => hk.2) (.int .i64 t231)) (fun _ hk => hk.2) (.int .i64 t232)) (fun _ h_ => h_.1))) hb);replace BK233 := lK gb233 24 #[.int .i64 t231, .int .i64 t232] hb;replace HB := sBe HB hb;(try clear hb ho0 ho1))|((with_reducible refine gate_dst (N := 9) rfl ?_);(try (refine gate_guard (by rfl) ?_;dsimp only));refine bE 9 #[.int .i64 0, .int .i64 0] 24 ?_;intro gb242 hg w91 hbox hb;have BK242 := Aside0.mk (hbox);have GW242 := gBe HB hg;have GE242 := gBe HB hg;have NB233_242 := nL BK233 hg;have NB242_233 := nG BK233 hg;replace HO230 := rL HO230 hb;replace HO236 := rL HO236 hb;replace HO239 := rL HO239 hb;replace BK233 := lJ BK233 hb;replace HB := sBe HB hb;clear hb hbox hg;have hnb92 := eq_false NB242_233.out;have hnc92 := eq_false NB233_242.out;have hcz93_0 := hC BK242 0 (.int .i64 0);have hcz93_1 := hC BK242 1 (.int .i64 0);have hfz93_0 := blk_frozen BK242.out 0;have hfz93_1 := blk_frozen BK242.out 1)|((with_reducible refine gate_callee (f := 35) rfl ?_);refine goesL_ (some 27) rfl rfl Try.func35 (by kernel_rfl) rfl #[.string a0] rfl mA ?_;(with_reducible refine (changeforgeref1_One.calls a0 t243 _ A5.out).mono ?_);rintro e w94 ⟨rfl, hb⟩;refine ⟨_, rfl, ?_⟩;replace HO230 := Aside0.mk (Kd.R_below (by (with_reducible repeat first|apply rA|apply rN|apply rD);exact (Kd.R_mono (Kd.R_far (p := ⟨gb242, 1, none⟩) (Kd.R_far (p := ⟨gb242, 0, none⟩) (Kd.R_types HO230.out BK242.out (by decide)) (fun _ hk => hk.2) (.int .i64 t240)) (fun _ hk => hk.2) (.int .i64 t241)) (fun _ h_ => h_.1))) hb);replace HO236 := Aside0.mk (Kd.R_below (by (with_reducible repeat first|apply rA|apply rN|apply rD);exact (Kd.R_mono (Kd.R_far (p := ⟨gb242, 1, none⟩) (Kd.R_far (p := ⟨gb242, 0, none⟩) (Kd.R_types HO236.out BK242.out (by decide)) (fun _ hk => hk.2) (.int .i64 t240)) (fun _ hk => hk.2) (.int .i64 t241)) (fun _ h_ => h_.1))) hb);replace HO239 := Aside0.mk (Kd.R_below (by (with_reducible repeat first|apply rA|apply rN|apply rD);exact (Kd.R_mono (Kd.R_far (p := ⟨gb242, 1, none⟩) (Kd.R_far (p := ⟨gb242, 0, none⟩) (Kd.R_types HO239.out BK242.out (by decide)) (fun _ hk => hk.2) (.int .i64 t240)) (fun _ hk => hk.2) (.int .i64 t241)) (fun _ h_ => h_.1))) hb);replace BK233 := lJ BK233 hb;replace BK242 := lK gb242 24 #[.int .i64 t240, .int .i64 t241] hb;replace HB := sBe HB hb;(try clear hb))|((with_reducible refine gate_callee (f := 35) rfl ?_);refine goesL_ (some 29) rfl rfl Try.func35 (by kernel_rfl) rfl #[.string a1] rfl mA ?_;(with_reducible refine (changeforgeref1_One.calls a1 t244 _ A6.out).mono ?_);rintro e w95 ⟨rfl, hb⟩;refine ⟨_, rfl, ?_⟩;replace HO230 := rL HO230 hb;replace HO236 := rL HO236 hb;replace HO239 := rL HO239 hb;replace BK233 := lJ BK233 hb;replace BK242 := lJ BK242 hb;replace HB := sBe HB hb;(try clear hb)))
              replace HO230 := Aside0.mk (Kd.R_drew HO230.out);replace HO236 := Aside0.mk (Kd.R_drew HO236.out);replace HO239 := Aside0.mk (Kd.R_drew HO239.out);replace BK233 := Aside0.mk (blk_drew BK233.out);replace BK242 := Aside0.mk (blk_drew BK242.out);replace HB := Aside0.mk (below_drew1 HB.out);refine start_ (n := 29) (S := fun w' => w'.cell? ⟨gb233, 0, none⟩ = some (.int .i64 t231) ∧ w'.cell? ⟨gb233, 1, none⟩ = some (.int .i64 t232) ∧ w'.cell? ⟨gb242, 0, none⟩ = some (.int .i64 t240) ∧ w'.cell? ⟨gb242, 1, none⟩ = some (.int .i64 t241)) (ds := []) (mb 29 0) (by kernel_rfl) rfl (by kernel_rfl) ⟨(blk_cell BK233.out 0).trans rfl, (blk_cell BK233.out 1).trans rfl, (blk_cell BK242.out 0).trans rfl, (blk_cell BK242.out 1).trans rfl⟩ (fun hHeld => ?_);refine with_tabW changeforgelaw1_WorddiffMatchesSpec.tab6 changeforgelaw1_WorddiffMatchesSpec.bits6 (fun HT_ HW_ => ?_);generalize w95.drew = w96 at HO230 HO236 HO239 BK233 BK242 HB hHeld ⊢;refine pA 1 33 (mb 29 2) HT_ rfl rfl ?_;refine tA 0 32 (mb 29 3) HT_ HW_ hHeld rfl rfl (by rintro w' ⟨s0, s1, s2, s3⟩;go_simp;with_reducible rfl) ?_;refine one_ (i := 2) (N := some 34) (mb 29 7) rfl rfl (one_of HT_.out (by kernel_rfl)) (by decide) (fun K hK => ?_);refine goes_ Try.func36 (by kernel_rfl) rfl #[.int .i64 t243, .int .i64 0] (by rfl) rfl rfl mA ?_
              with_reducible refine (changeforgeref1_At.calls t243 0 t245 t246 _ A79.out).mono ?_
              rintro e w97 ⟨rfl, hb⟩
              refine ⟨_, rfl, ?_⟩;replace HO230 := rL HO230 hb;replace HO236 := rL HO236 hb;replace HO239 := rL HO239 hb;replace BK233 := lJ BK233 hb;replace BK242 := lJ BK242 hb;replace HB := sBe HB hb;(try clear hb);refine hK.out _ _ ⟨(blk_cell BK233.out 0).trans rfl, (blk_cell BK233.out 1).trans rfl, (blk_cell BK242.out 0).trans rfl, (blk_cell BK242.out 1).trans rfl⟩ (fun hHeld => ?_);clear hK K;refine nmA (some 34) ?_;refine pA 3 35 (mb 29 15) HT_ rfl rfl ?_;refine pA 4 36 (mb 29 31) HT_ rfl rfl ?_;refine pA 6 38 (mb 29 95) HT_ rfl rfl ?_;refine tA 5 37 (mb 29 127) HT_ HW_ hHeld rfl rfl (by rintro w' ⟨s0, s1, s2, s3⟩;go_simp;with_reducible rfl) ?_;refine one_ (i := 7) (N := some 39) (mb 29 255) rfl rfl (one_of HT_.out (by kernel_rfl)) (by decide) (fun K hK => ?_);refine goes_ Try.func36 (by kernel_rfl) rfl #[.int .i64 t243, .int .i64 0] (by rfl) rfl rfl mA ?_
              with_reducible refine (changeforgeref1_At.calls t243 0 t247 t248 _ A81.out).mono ?_
              rintro e w98 ⟨rfl, hb⟩
              refine ⟨_, rfl, ?_⟩;replace HO230 := rL HO230 hb;replace HO236 := rL HO236 hb;replace HO239 := rL HO239 hb;replace BK233 := lJ BK233 hb;replace BK242 := lJ BK242 hb;replace HB := sBe HB hb;(try clear hb);obtain ⟨Ao99, co99, eo99⟩ := Kd.R_slice HO230.out
              (first|subst eo99|(injection eo99 with f1_ f2_ f3_;have f4_ := f1_.symm;have f5_ := f3_.symm;clear f1_ f2_ f3_;subst f4_;subst f5_))
              obtain ⟨Ao100, co100, eo100⟩ := Kd.R_slice HO236.out
              (first|subst eo100|(injection eo100 with f1_ f2_ f3_;have f4_ := f1_.symm;have f5_ := f3_.symm;clear f1_ f2_ f3_;subst f4_;subst f5_))
              obtain ⟨Ao101, co101, eo101⟩ := Kd.R_slice HO239.out
              (first|subst eo101|(injection eo101 with f1_ f2_ f3_;have f4_ := f1_.symm;have f5_ := f3_.symm;clear f1_ f2_ f3_;subst f4_;subst f5_))
              refine hK.out _ _ ⟨(blk_cell BK233.out 0).trans rfl, (blk_cell BK233.out 1).trans rfl, (blk_cell BK242.out 0).trans rfl, (blk_cell BK242.out 1).trans rfl⟩ (fun hHeld => ?_);clear hK K;refine nmA (some 39) ?_;refine pA 8 40 (mb 29 511) HT_ rfl rfl ?_;refine pA 9 41 (mb 29 1023) HT_ rfl rfl ?_;refine pA 10 42 (mb 29 2047) HT_ rfl rfl ?_;refine pA 11 43 (mb 29 4095) HT_ rfl rfl ?_;refine pA 12 44 (mb 29 8191) HT_ rfl rfl ?_;refine pA 13 45 (mb 29 16383) HT_ rfl rfl ?_;refine pA 14 46 (mb 29 32767) HT_ rfl rfl ?_;refine pA 15 47 (mb 29 65535) HT_ rfl rfl ?_;refine pA 16 48 (mb 29 131071) HT_ rfl rfl ?_;refine pA 17 49 (mb 29 262143) HT_ rfl rfl ?_;refine pA 18 50 (mb 29 524287) HT_ rfl rfl ?_;refine pA 19 51 (mb 29 1048575) HT_ rfl rfl ?_;refine pA 20 52 (mb 29 2097151) HT_ rfl rfl ?_;refine pA 21 53 (mb 29 4194303) HT_ rfl rfl ?_;refine pA 22 54 (mb 29 8388607) HT_ rfl rfl ?_;refine pA 23 55 (mb 29 16777215) HT_ rfl rfl ?_;refine pA 24 56 (mb 29 33554431) HT_ rfl rfl ?_;refine pA 25 57 (mb 29 67108863) HT_ rfl rfl ?_;refine one_ (i := 26) (N := some 58) (mb 29 134217727) rfl rfl (one_of HT_.out (by kernel_rfl)) (by decide) (fun K hK => ?_);refine goes_ Try.func32 (by kernel_rfl) rfl #[] (by rfl) rfl rfl mA ?_
              with_reducible refine (changeforgelaw1_split.calls  t249 _ A86.out).mono ?_
              rintro e w102 ⟨rfl, hb⟩
              refine ⟨_, rfl, ?_⟩;replace HO230 := rL HO230 hb;replace HO236 := rL HO236 hb;replace HO239 := rL HO239 hb;replace BK233 := lJ BK233 hb;replace BK242 := lJ BK242 hb;replace HB := sBe HB hb;(try clear hb);refine hK.out _ _ ⟨(blk_cell BK233.out 0).trans rfl, (blk_cell BK233.out 1).trans rfl, (blk_cell BK242.out 0).trans rfl, (blk_cell BK242.out 1).trans rfl⟩ (fun hHeld => ?_);clear hK K;refine nmA (some 58) ?_;refine pA 27 59 (mb 29 268435455) HT_ rfl rfl ?_;refine pA 28 4 (mb 29 536870911) HT_ rfl rfl ?_;refine done_ (done_of HT_.out (by kernel_rfl)) ?_
              try go_wp2
              go_ret
              exact ⟨rW, eB⟩
            · rw [if_neg c85] at H;have c85b0 : ((t237.length : Int) == 0) = false := beq_eq_false_iff_ne.mpr c85;have c85b1 : ((t237.length : Int) != 0) = true := bne_iff_ne.mpr c85;have c85b2 : ¬ (t237 = []) := (fun h_ => c85 (by rw [h_];rfl));obtain rfl := Option.some.inj H;exact absurd hrt (by decide)
          · rw [if_neg c84] at H;have c84b0 : ((t234.length : Int) == 0) = false := beq_eq_false_iff_ne.mpr c84;have c84b1 : ((t234.length : Int) != 0) = true := bne_iff_ne.mpr c84;have c84b2 : ¬ (t234 = []) := (fun h_ => c84 (by rw [h_];rfl));obtain rfl := Option.some.inj H;exact absurd hrt (by decide)
        · rw [if_neg c83] at H;have c83b0 : ((t228.length : Int) == 0) = false := beq_eq_false_iff_ne.mpr c83;have c83b1 : ((t228.length : Int) != 0) = true := bne_iff_ne.mpr c83;have c83b2 : ¬ (t228 = []) := (fun h_ => c83 (by rw [h_];rfl));obtain rfl := Option.some.inj H;exact absurd hrt (by decide)
      · rw [if_neg c82] at H;have c82b0 : (t240 == t247 && (t241 == t248)) = false := (by simpa using c82);(try (have c82b1 : decide (t240 = t247 && (t241 == t248)) = false := by simpa using c82));(try (have c82b2 : (t240 == t247 && (t241 == t248)) = false := by simpa using c82));(try (have c82b3 : ¬ (t240 = t247 && (t241 == t248)) := by simpa using c82));clear c82;obtain rfl := Option.some.inj H;exact absurd hrt (by decide)
    · rw [if_neg c80] at H;have c80b0 : (t231 == t245 && (t232 == t246)) = false := (by simpa using c80);(try (have c80b1 : decide (t231 = t245 && (t232 == t246)) = false := by simpa using c80));(try (have c80b2 : (t231 == t245 && (t232 == t246)) = false := by simpa using c80));(try (have c80b3 : ¬ (t231 = t245 && (t232 == t246)) := by simpa using c80));clear c80;obtain rfl := Option.some.inj H;exact absurd hrt (by decide)
/-- THE ONE PURE STATEMENT of changeforgelaw1_WorddiffMatchesSpec: yours. -/
def changeforgelaw1_WorddiffMatchesSpec.Pure : Prop := ∀ (a0 : ByteArray) (a1 : ByteArray), a0.size ≤ 140737488351232 → a1.size ≤ 140737488351232 → ∃ k, changeforgelaw1_WorddiffMatchesSpec.f k a0 a1 = some true
theorem changeforgelaw1_WorddiffMatchesSpec.walk (P : changeforgelaw1_WorddiffMatchesSpec.Pure) (a0 : ByteArray) (a1 : ByteArray) (w : World) (hw0 : a0.size ≤ 140737488351232) (hw1 : a1.size ≤ 140737488351232) :
    Calls Try.prog 11 #[.string a0, .string a1] w fun e w' => e = .returned (.bool true) ∧ Below w.heap.size w w' := by
  obtain ⟨k, h⟩ := P a0 a1 hw0 hw1;refine (changeforgelaw1_WorddiffMatchesSpec.calls k a0 a1 true w h rfl).mono ?_
  rintro e w' ⟨rfl, hd⟩
  exact ⟨rfl, hd⟩

end Go.Proofs.Ytifkadmljokffaa.PX
