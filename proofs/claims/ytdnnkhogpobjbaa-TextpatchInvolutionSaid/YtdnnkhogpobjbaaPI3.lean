/- Printed by a program of this session out of the translation: Lean functions for Go functions, and proofs that the Go functions answer the same. -/
import Derived.Test.YtdnnkhogpobjbaaPI0
import Derived.Test.YtdnnkhogpobjbaaPI1
import Derived.Test.YtdnnkhogpobjbaaPI2
namespace Go.Proofs.Ytdnnkhogpobjbaa.PI
open Go.RowKit Go.Proofs.Ytdnnkhogpobjbaa.Pre Go.Proofs.YtdnnkhogpobjbaaW.PrintWords Go.Proofs.YtdnnkhogpobjbaaW.PrintLast Go.Proofs.YtdnnkhogpobjbaaW.PrintMore
attribute [local go_sem] max2_int min2_int max_two min_two max_three min_three max_four min_four   -- for this text's walks alone
set_option linter.unusedVariables false
set_option linter.unusedSimpArgs false

attribute [local go_sem high] eqA27
/-! ### textpatch_Validate_0: function 19 -/
def textpatch_Validate_0.l0 : Nat → Int → List (S47) → Int → Int → Option (Int × Int)
  | 0, _, _, _, _ => none
  | k + 1, x3, x13, x14, x15 => if x15 < x14 then (if 0 ≤ x15 then (if x15 < (x13.length : Int) then ((textpatch_hunkCode.f ((rd_T47 x13 x15).f0) ((rd_T47 x13 x15).f1) ((rd_T47 x13 x15).f2) x3).bind fun t117 => (if t117 = 0 then ((textpatch_End.f ((rd_T47 x13 x15).f0) ((rd_T47 x13 x15).f1) ((rd_T47 x13 x15).f2)).bind fun t118 => (textpatch_Validate_0.l0 k (wrap64 (t118 + 1)) x13 x14 (wrap64 (x15 + 1)))) else (some (t117, x15)))) else (none)) else (none)) else (some (0, 0))
def textpatch_Validate_0.f (k : Nat) (l0_0 : List (S47)) : Option (Int × Int) := if (l0_0.length : Int) > 130 then (some (2, (-1))) else (textpatch_Validate_0.l0 k 0 l0_0 (l0_0.length : Int) 0)
theorem textpatch_Validate_0.mono_l : ∀ k, (∀ y0 y1 y2 y3, LeO (textpatch_Validate_0.l0 k y0 y1 y2 y3) (textpatch_Validate_0.l0 (k + 1) y0 y1 y2 y3))
  | 0 => fun _ _ _ _ r h => by simp [textpatch_Validate_0.l0] at h
  | k + 1 => by
    have ih0 := textpatch_Validate_0.mono_l k
    · intro y0 y1 y2 y3
      unfold textpatch_Validate_0.l0
      repeat' first
      | (with_reducible exact ih0 _ _ _ _)
      | (with_reducible exact LeO.refl _)
      | (with_reducible exact LeO.none _)
      | (with_reducible refine LeO.ite ?_ ?_)
      | (with_reducible refine LeO.bind ?_ (fun _ => ?_))
      | exact ih0 _ _ _ _
      | exact LeO.none _
      | refine LeO.ite ?_ ?_
      | refine LeO.bind ?_ (fun _ => ?_)
theorem textpatch_Validate_0.mono : ∀ a0 k, LeO (textpatch_Validate_0.f k a0) (textpatch_Validate_0.f (k + 1) a0) := by
  intro a0 k
  have ih0 := textpatch_Validate_0.mono_l k
  unfold textpatch_Validate_0.f
  repeat' first
      | (with_reducible exact ih0 _ _ _ _)
      | (with_reducible exact LeO.refl _)
      | (with_reducible exact LeO.none _)
      | (with_reducible refine LeO.ite ?_ ?_)
      | (with_reducible refine LeO.bind ?_ (fun _ => ?_))
      | exact ih0 _ _ _ _
      | exact LeO.none _
      | refine LeO.ite ?_ ?_
      | refine LeO.bind ?_ (fun _ => ?_)
set_option maxHeartbeats 8000000 in
set_option maxRecDepth 100000 in
theorem textpatch_Validate_0.calls (k : Nat) (A0_0 : Option Addr) (c0_0 : Nat) (l0_0 : List (S47)) (r1 : Int) (r2 : Int) (w : World) (hr0_0 : Kd.C k47 w A0_0 l0_0.length l0_0) (hc0_0 : l0_0.length ≤ c0_0) (h : textpatch_Validate_0.f k l0_0 = some (r1, r2)) :
    Calls Try.prog 19 #[.agg #[.slice A0_0 l0_0.length c0_0]] w fun e w' => e = .returned (.agg #[.int .i64 r1, .int .i64 r2]) ∧ Below w.heap.size w w' := by
  have hu24 := Try.underlying24
  have hu27 := Try.underlying27
  have hu47 := Try.underlying47
  have HR0_0 := Aside0.mk hr0_0
  have HC0_0 := Aside0.mk hc0_0
  clear hr0_0 hc0_0
  have HB := Aside0.mk (Below.refl w.heap.size w)
  have H : (if (l0_0.length : Int) > 130 then (some (2, (-1))) else (textpatch_Validate_0.l0 k 0 l0_0 (l0_0.length : Int) 0)) = some (r1, r2) := h
  clear h
  by_cases c2 : (l0_0.length : Int) > 130
  · rw [if_pos c2] at H
    have c2b0 : decide (130 < (l0_0.length : Int)) = true := decide_eq_true c2
    have c2b1 : decide (130 < l0_0.length) = true := decide_eq_true (by omega)
    clear c2
    simp only [Option.some.injEq, Prod.mk.injEq] at H
    obtain ⟨rfl, rfl⟩ := H
    go_enter Try.func19, Try.ntmps19
    go_wp2_with (first|((with_reducible refine gate_dst (N := 1) rfl ?_);refine box_event ?hg (N := 1) ?hd (cs := #[.slice A0_0 l0_0.length c0_0]) (t := 24) ?hr ?_;(case hd => rfl);(case hg => rfl);(case hr => first|(go_simp;done)|(go_simp;rfl));intro gb113 hg w3 hbox hb;have n0_ := Aside0.mk (below_step (by repeat (first|(with_reducible first|exact HB.out|apply eA|apply eN|apply eD)|exact HB.out)) hb);have n1_ := Aside0.mk (hbox);have n2_ := Aside0.mk ((by rw [hg];exact (below_size (by repeat (first|(with_reducible first|exact HB.out|apply eA|apply eN|apply eD)|exact HB.out))) : w.heap.size ≤ gb113));have n3_ := Aside0.mk ((by rw [hg];exact (below_size (by repeat (first|(with_reducible first|exact HB.out|apply eA|apply eN|apply eD)|exact HB.out))) : w.heap.size ≤ gb113));clear HB;have HB := n0_;have BK113 := n1_;have GW113 := n2_;have GE113 := n3_;clear n0_ n1_ n2_ n3_;clear hb hbox hg)|((with_reducible refine gate_dst (N := 2) rfl ?_);refine box_event ?hg (N := 2) ?hd (cs := #[.int .i64 0, .int .i64 0]) (t := 27) ?hr ?_;(case hd => rfl);(case hg => rfl);(case hr => first|(go_simp;done)|(go_simp;rfl));intro gb114 hg w4 hbox hb;have n0_ := Aside0.mk (blk_below (g := gb113) (o := .cells #[.slice A0_0 l0_0.length c0_0] 24 (0, 0)) (by (with_reducible repeat first|apply bN|apply bD|apply bA);exact BK113.out) hb);have n1_ := Aside0.mk (below_step (by repeat (first|(with_reducible first|exact HB.out|apply eA|apply eN|apply eD|refine below_set ?_ GE113.out)|exact HB.out)) hb);have n2_ := Aside0.mk (hbox);have n3_ := Aside0.mk ((by rw [hg];exact (below_size (by repeat (first|(with_reducible first|exact HB.out|apply eA|apply eN|apply eD|refine below_set ?_ GE113.out)|exact HB.out))) : w.heap.size ≤ gb114));have n4_ := Aside0.mk ((by rw [hg];exact (below_size (by repeat (first|(with_reducible first|exact HB.out|apply eA|apply eN|apply eD|refine below_set ?_ GE113.out)|exact HB.out))) : w.heap.size ≤ gb114));have n5_ := Aside0.mk ((by rw [hg];exact Nat.ne_of_lt (blk_lt (g := gb113) (o := .cells #[.slice A0_0 l0_0.length c0_0] 24 (0, 0)) (by (with_reducible repeat first|apply bN|apply bD|apply bA);exact BK113.out)) : gb113 ≠ gb114));have n6_ := Aside0.mk ((by rw [hg];exact Nat.ne_of_gt (blk_lt (g := gb113) (o := .cells #[.slice A0_0 l0_0.length c0_0] 24 (0, 0)) (by (with_reducible repeat first|apply bN|apply bD|apply bA);exact BK113.out)) : gb114 ≠ gb113));clear BK113;clear HB;have BK113 := n0_;have HB := n1_;have BK114 := n2_;have GW114 := n3_;have GE114 := n4_;have NB113_114 := n5_;have NB114_113 := n6_;clear n0_ n1_ n2_ n3_ n4_ n5_ n6_;clear hb hbox hg;have hnb5 := NB113_114.out;have hnc5 := NB114_113.out;have hcz6_0 : w4.cell? ⟨gb113, 0, none⟩ = some (.slice A0_0 l0_0.length c0_0) := (blk_cell BK113.out 0).trans rfl;have hfz6_0 := blk_frozen BK113.out 0;have hcz7_0 : w4.cell? ⟨gb114, 0, none⟩ = some (.int .i64 0) := (blk_cell BK114.out 0).trans rfl;have hcz7_1 : w4.cell? ⟨gb114, 1, none⟩ = some (.int .i64 0) := (blk_cell BK114.out 1).trans rfl;have hfz7_0 := blk_frozen BK114.out 0;have hfz7_1 := blk_frozen BK114.out 1))
    refine bodyPost_ret (results_cell_row rfl _ _ gb114 27 #[.int .i64 2, .int .i64 (-1)] (0, 0) _ rfl (by (with_reducible repeat first|apply bN|apply bD|apply bA);refine blk_put (cs := #[.int .i64 2, .int .i64 0]) ?_ 1 _ rfl;(with_reducible repeat first|apply bN|apply bD|apply bA);refine blk_put (cs := #[.int .i64 0, .int .i64 0]) ?_ 0 _ rfl;(with_reducible repeat first|apply bN|apply bD|apply bA);exact BK114.out) Try.underlying27 rfl (by kernel_rfl)) rfl ?_
    exact ⟨by first|rfl|(simp [errW_none, errW_some] <;> rfl)|(simp [*, errW_none, errW_some] <;> rfl), by repeat (first|(with_reducible first|exact HB.out|apply eA|apply eN|apply eD|refine below_set ?_ GE113.out|refine below_set ?_ GE114.out)|exact HB.out)⟩
  · rw [if_neg c2] at H
    have c2b0 : decide (130 < (l0_0.length : Int)) = false := decide_eq_false c2
    have c2b1 : decide (130 < l0_0.length) = false := decide_eq_false (by omega)
    clear c2
    have H' := Aside0.mk H
    clear H
    go_enter Try.func19, Try.ntmps19
    go_wp2_with (first|((with_reducible refine gate_dst (N := 1) rfl ?_);refine box_event ?hg (N := 1) ?hd (cs := #[.slice A0_0 l0_0.length c0_0]) (t := 24) ?hr ?_;(case hd => rfl);(case hg => rfl);(case hr => first|(go_simp;done)|(go_simp;rfl));intro gb113 hg w8 hbox hb;have n0_ := Aside0.mk (below_step (by repeat (first|(with_reducible first|exact HB.out|apply eA|apply eN|apply eD)|exact HB.out)) hb);have n1_ := Aside0.mk (hbox);have n2_ := Aside0.mk ((by rw [hg];exact (below_size (by repeat (first|(with_reducible first|exact HB.out|apply eA|apply eN|apply eD)|exact HB.out))) : w.heap.size ≤ gb113));have n3_ := Aside0.mk ((by rw [hg];exact (below_size (by repeat (first|(with_reducible first|exact HB.out|apply eA|apply eN|apply eD)|exact HB.out))) : w.heap.size ≤ gb113));clear HB;have HB := n0_;have BK113 := n1_;have GW113 := n2_;have GE113 := n3_;clear n0_ n1_ n2_ n3_;clear hb hbox hg)|((with_reducible refine gate_dst (N := 2) rfl ?_);refine box_event ?hg (N := 2) ?hd (cs := #[.int .i64 0, .int .i64 0]) (t := 27) ?hr ?_;(case hd => rfl);(case hg => rfl);(case hr => first|(go_simp;done)|(go_simp;rfl));intro gb114 hg w9 hbox hb;have n0_ := Aside0.mk (blk_below (g := gb113) (o := .cells #[.slice A0_0 l0_0.length c0_0] 24 (0, 0)) (by (with_reducible repeat first|apply bN|apply bD|apply bA);exact BK113.out) hb);have n1_ := Aside0.mk (below_step (by repeat (first|(with_reducible first|exact HB.out|apply eA|apply eN|apply eD|refine below_set ?_ GE113.out)|exact HB.out)) hb);have n2_ := Aside0.mk (hbox);have n3_ := Aside0.mk ((by rw [hg];exact (below_size (by repeat (first|(with_reducible first|exact HB.out|apply eA|apply eN|apply eD|refine below_set ?_ GE113.out)|exact HB.out))) : w.heap.size ≤ gb114));have n4_ := Aside0.mk ((by rw [hg];exact (below_size (by repeat (first|(with_reducible first|exact HB.out|apply eA|apply eN|apply eD|refine below_set ?_ GE113.out)|exact HB.out))) : w.heap.size ≤ gb114));have n5_ := Aside0.mk ((by rw [hg];exact Nat.ne_of_lt (blk_lt (g := gb113) (o := .cells #[.slice A0_0 l0_0.length c0_0] 24 (0, 0)) (by (with_reducible repeat first|apply bN|apply bD|apply bA);exact BK113.out)) : gb113 ≠ gb114));have n6_ := Aside0.mk ((by rw [hg];exact Nat.ne_of_gt (blk_lt (g := gb113) (o := .cells #[.slice A0_0 l0_0.length c0_0] 24 (0, 0)) (by (with_reducible repeat first|apply bN|apply bD|apply bA);exact BK113.out)) : gb114 ≠ gb113));clear BK113;clear HB;have BK113 := n0_;have HB := n1_;have BK114 := n2_;have GW114 := n3_;have GE114 := n4_;have NB113_114 := n5_;have NB114_113 := n6_;clear n0_ n1_ n2_ n3_ n4_ n5_ n6_;clear hb hbox hg;have hnb10 := NB113_114.out;have hnc10 := NB114_113.out;have hcz11_0 : w9.cell? ⟨gb113, 0, none⟩ = some (.slice A0_0 l0_0.length c0_0) := (blk_cell BK113.out 0).trans rfl;have hfz11_0 := blk_frozen BK113.out 0))
    go_loopg [3, 15] k (fun kq v3 v15 w' => ∃ (x3_1 : Int) (x15_1 : Int) (x115000_1 : Int) (x115001_1 : Int), v3 = .int .i64 x3_1 ∧ v15 = .int .i64 x15_1 ∧ Aside0 (textpatch_Validate_0.l0 kq x3_1 l0_0 (l0_0.length : Int) x15_1 = some (r1, r2)) ∧ Aside0 (kq ≤ k) ∧ Aside0 (w'.heap[gb113]? = some (.cells #[(.slice A0_0 l0_0.length c0_0)] 24 (0, 0))) ∧ Aside0 (w'.heap[gb114]? = some (.cells #[.int .i64 x115000_1, .int .i64 x115001_1] 27 (0, 0))) ∧ Aside0 (Below w.heap.size w w'))
    case atStart => exact ⟨(0), (0), (0), (0), (by first|rfl|(simp;done)|(simp [*];done)), (by first|rfl|(simp;done)|(simp [*];done)), H', ⟨Nat.le_refl _⟩, ⟨by (with_reducible repeat first|apply bN|apply bD|apply bA);exact BK113.out⟩, ⟨by (with_reducible repeat first|apply bN|apply bD|apply bA);exact BK114.out⟩, ⟨by repeat (first|(with_reducible first|exact HB.out|apply eA|apply eN|apply eD|refine below_set ?_ GE113.out|refine below_set ?_ GE114.out)|exact HB.out)⟩⟩
    case round =>
      clear H'
      try clear c1
      try clear c2
      try clear c2b0
      try clear c2b1
      try clear p2
      try clear c5
      try clear c10
      try clear hcz11_0
      try clear hcz6_0
      try clear hcz7_0
      try clear hcz7_1
      try clear hfz11_0
      try clear hfz6_0
      try clear hfz7_0
      try clear hfz7_1
      obtain ⟨x3_1, x15_1, x115000_1, x115001_1, rfl, rfl, HA, HK1, BK113, BK114, HB⟩ := hrel
      cases gk with
      | zero => exact absurd HA.out (by simp [textpatch_Validate_0.l0])
      | succ k1 =>
        have H := HA.out
        clear HA
        simp only [textpatch_Validate_0.l0] at H
        by_cases c12 : x15_1 < (l0_0.length : Int)
        · rw [if_pos c12] at H
          have c12b0 : decide (x15_1 < (l0_0.length : Int)) = true := decide_eq_true c12
          clear c12
          by_cases c13 : 0 ≤ x15_1
          · rw [if_pos c13] at H
            have c13b0 : decide (0 ≤ x15_1) = true := decide_eq_true c13
            clear c13
            by_cases c14 : x15_1 < (l0_0.length : Int)
            · rw [if_pos c14] at H
              have c14b0 : decide (x15_1 < (l0_0.length : Int)) = true := decide_eq_true c14
              clear c14
              replace H := Option.bind_eq_some_iff.mp H
              obtain ⟨t117, A150, H⟩ := H
              replace H : (if t117 = 0 then ((textpatch_End.f ((rd_T47 l0_0 x15_1).f0) ((rd_T47 l0_0 x15_1).f1) ((rd_T47 l0_0 x15_1).f2)).bind fun t118 => (textpatch_Validate_0.l0 k1 (wrap64 (t118 + 1)) l0_0 (l0_0.length : Int) (wrap64 (x15_1 + 1)))) else (some (t117, x15_1))) = some (r1, r2) := H
              have A15 := Aside0.mk A150
              clear A150
              by_cases c16 : t117 = 0
              · rw [if_pos c16] at H
                have c16b0 : (t117 == 0) = true := beq_iff_eq.mpr c16
                have c16b1 : (t117 != 0) = false := bne_eq_false_iff_eq.mpr c16
                clear c16
                replace H := Option.bind_eq_some_iff.mp H
                obtain ⟨t118, A170, H⟩ := H
                replace H : (textpatch_Validate_0.l0 k1 (wrap64 (t118 + 1)) l0_0 (l0_0.length : Int) (wrap64 (x15_1 + 1))) = some (r1, r2) := H
                have A17 := Aside0.mk A170
                clear A170
                have H' := Aside0.mk H
                clear H
                have p115 : 0 ≤ (x15_1 : Int) := of_decide_eq_true (by first|(with_reducible assumption)|assumption)
                have q115 : x15_1 < (l0_0.length : Int) := of_decide_eq_true (by first|(with_reducible assumption)|assumption)
                obtain ⟨ad115, A115_1, c115_1, A115_2, c115_2, e115, hx115_0, hx115_1, hx115_2, hl115_1, hi115_1, hl115_2, hi115_2⟩ := at_T47 HR0_0.out x15_1 p115 q115
                cases e115
                replace hx115_0 := (HB.out.cell (World.block_lt_of_cell? w _ hx115_0)).trans hx115_0
                replace hx115_1 := (HB.out.cell (World.block_lt_of_cell? w _ hx115_1)).trans hx115_1
                replace hx115_2 := (HB.out.cell (World.block_lt_of_cell? w _ hx115_2)).trans hx115_2
                have HR115_1 := Aside0.mk hi115_1
                have HC115_1 := Aside0.mk hl115_1
                clear hi115_1 hl115_1
                have HR115_2 := Aside0.mk hi115_2
                have HC115_2 := Aside0.mk hl115_2
                clear hi115_2 hl115_2
                replace p115 := eq_true p115
                replace q115 := eq_true q115
                go_wp2_with (first|((with_reducible refine gate_dst (N := 5) rfl ?_);refine box_event ?hg (N := 5) ?hd (cs := #[.int .i64 0, .slice none 0 0, .slice none 0 0]) (t := 47) ?hr ?_;(case hd => rfl);(case hg => rfl);(case hr => first|(go_simp;done)|(go_simp;rfl));intro gb116 hg w18 hbox hb;have n0_ := Aside0.mk (blk_below (g := gb113) (o := .cells #[.slice (some ad115) l0_0.length c0_0] 24 (0, 0)) (by (with_reducible repeat first|apply bN|apply bD|apply bA);exact BK113.out) hb);have n1_ := Aside0.mk (blk_below (g := gb114) (o := .cells #[.int .i64 x115000_1, .int .i64 x115001_1] 27 (0, 0)) (by (with_reducible repeat first|apply bN|apply bD|apply bA);exact BK114.out) hb);have n2_ := Aside0.mk (below_step (by repeat (first|(with_reducible first|exact HB.out|apply eA|apply eN|apply eD|refine below_set ?_ GE113.out|refine below_set ?_ GE114.out)|exact HB.out)) hb);have n3_ := Aside0.mk (hbox);have n4_ := Aside0.mk ((by rw [hg];exact (below_size (by repeat (first|(with_reducible first|exact HB.out|apply eA|apply eN|apply eD|refine below_set ?_ GE113.out|refine below_set ?_ GE114.out)|exact HB.out))) : w.heap.size ≤ gb116));have n5_ := Aside0.mk ((by rw [hg];exact (below_size (by repeat (first|(with_reducible first|exact HB.out|apply eA|apply eN|apply eD|refine below_set ?_ GE113.out|refine below_set ?_ GE114.out)|exact HB.out))) : w.heap.size ≤ gb116));have n6_ := Aside0.mk ((by rw [hg];exact Nat.ne_of_lt (blk_lt (g := gb113) (o := .cells #[.slice (some ad115) l0_0.length c0_0] 24 (0, 0)) (by (with_reducible repeat first|apply bN|apply bD|apply bA);exact BK113.out)) : gb113 ≠ gb116));have n7_ := Aside0.mk ((by rw [hg];exact Nat.ne_of_gt (blk_lt (g := gb113) (o := .cells #[.slice (some ad115) l0_0.length c0_0] 24 (0, 0)) (by (with_reducible repeat first|apply bN|apply bD|apply bA);exact BK113.out)) : gb116 ≠ gb113));have n8_ := Aside0.mk ((by rw [hg];exact Nat.ne_of_lt (blk_lt (g := gb114) (o := .cells #[.int .i64 x115000_1, .int .i64 x115001_1] 27 (0, 0)) (by (with_reducible repeat first|apply bN|apply bD|apply bA);exact BK114.out)) : gb114 ≠ gb116));have n9_ := Aside0.mk ((by rw [hg];exact Nat.ne_of_gt (blk_lt (g := gb114) (o := .cells #[.int .i64 x115000_1, .int .i64 x115001_1] 27 (0, 0)) (by (with_reducible repeat first|apply bN|apply bD|apply bA);exact BK114.out)) : gb116 ≠ gb114));clear BK113;clear BK114;clear HB;have BK113 := n0_;have BK114 := n1_;have HB := n2_;have BK116 := n3_;have GW116 := n4_;have GE116 := n5_;have NB113_116 := n6_;have NB116_113 := n7_;have NB114_116 := n8_;have NB116_114 := n9_;clear n0_ n1_ n2_ n3_ n4_ n5_ n6_ n7_ n8_ n9_;clear hb hbox hg;have hnb19 := NB116_113.out;have hnc19 := NB113_116.out;have hnb20 := NB116_114.out;have hnc20 := NB114_116.out;have hcz21_0 : w18.cell? ⟨gb116, 0, none⟩ = some (.int .i64 0) := (blk_cell BK116.out 0).trans rfl;have hcz21_1 : w18.cell? ⟨gb116, 1, none⟩ = some (.slice none 0 0) := (blk_cell BK116.out 1).trans rfl;have hcz21_2 : w18.cell? ⟨gb116, 2, none⟩ = some (.slice none 0 0) := (blk_cell BK116.out 2).trans rfl;have hfz21_0 := blk_frozen BK116.out 0;have hfz21_1 := blk_frozen BK116.out 1;have hfz21_2 := blk_frozen BK116.out 2)|((with_reducible refine gate_callee (f := 43) rfl ?_);refine goesL_ (some 22) rfl rfl Try.func43 (by kernel_rfl) rfl #[.agg #[.int .i64 ((rd_T47 l0_0 x15_1).f0), .slice A115_1 ((rd_T47 l0_0 x15_1).f1).length c115_1, .slice A115_2 ((rd_T47 l0_0 x15_1).f2).length c115_2], .int .i64 x3_1] rfl (by (try simp only [List.map_toArray, List.map_cons, List.map_nil]);first|done|rfl|(simp only [List.length_drop, List.length_take];rfl)) ?_;(with_reducible refine (textpatch_hunkCode.calls ((rd_T47 l0_0 x15_1).f0) _ _ ((rd_T47 l0_0 x15_1).f1) _ _ ((rd_T47 l0_0 x15_1).f2) x3_1 t117 _ ?side1 ?side2 ?side3 ?side4 A15.out).mono ?_);(case side1 => exact Kd.C_below HR115_1.out (by repeat (first|(with_reducible first|exact HB.out|apply eA|apply eN|apply eD|refine below_set ?_ GE113.out|refine below_set ?_ GE114.out|refine below_set ?_ GE116.out)|exact HB.out)));(case side2 => exact HC115_1.out);(case side3 => exact Kd.C_below HR115_2.out (by repeat (first|(with_reducible first|exact HB.out|apply eA|apply eN|apply eD|refine below_set ?_ GE113.out|refine below_set ?_ GE114.out|refine below_set ?_ GE116.out)|exact HB.out)));(case side4 => exact HC115_2.out);rintro e w22 ⟨rfl, hb⟩;refine ⟨_, rfl, ?_⟩;have n0_ := Aside0.mk (blk_below (g := gb113) (o := .cells #[.slice (some ad115) l0_0.length c0_0] 24 (0, 0)) (by (with_reducible repeat first|apply bN|apply bD|apply bA);refine blk_far ?_ NB113_116.out _;(with_reducible repeat first|apply bN|apply bD|apply bA);refine blk_far ?_ NB113_116.out _;(with_reducible repeat first|apply bN|apply bD|apply bA);refine blk_far ?_ NB113_116.out _;(with_reducible repeat first|apply bN|apply bD|apply bA);exact BK113.out) hb);have n1_ := Aside0.mk (blk_below (g := gb114) (o := .cells #[.int .i64 x115000_1, .int .i64 x115001_1] 27 (0, 0)) (by (with_reducible repeat first|apply bN|apply bD|apply bA);refine blk_far ?_ NB114_116.out _;(with_reducible repeat first|apply bN|apply bD|apply bA);refine blk_far ?_ NB114_116.out _;(with_reducible repeat first|apply bN|apply bD|apply bA);refine blk_far ?_ NB114_116.out _;(with_reducible repeat first|apply bN|apply bD|apply bA);exact BK114.out) hb);have n2_ := Aside0.mk (blk_below (g := gb116) (o := .cells #[.int .i64 ((rd_T47 l0_0 x15_1).f0), .slice A115_1 ((rd_T47 l0_0 x15_1).f1).length c115_1, .slice A115_2 ((rd_T47 l0_0 x15_1).f2).length c115_2] 47 (0, 0)) (by (with_reducible repeat first|apply bN|apply bD|apply bA);refine blk_put (cs := #[.int .i64 ((rd_T47 l0_0 x15_1).f0), .slice A115_1 ((rd_T47 l0_0 x15_1).f1).length c115_1, .slice none 0 0]) ?_ 2 _ rfl;(with_reducible repeat first|apply bN|apply bD|apply bA);refine blk_put (cs := #[.int .i64 ((rd_T47 l0_0 x15_1).f0), .slice none 0 0, .slice none 0 0]) ?_ 1 _ rfl;(with_reducible repeat first|apply bN|apply bD|apply bA);refine blk_put (cs := #[.int .i64 0, .slice none 0 0, .slice none 0 0]) ?_ 0 _ rfl;(with_reducible repeat first|apply bN|apply bD|apply bA);exact BK116.out) hb);have n3_ := Aside0.mk (below_step (by repeat (first|(with_reducible first|exact HB.out|apply eA|apply eN|apply eD|refine below_set ?_ GE113.out|refine below_set ?_ GE114.out|refine below_set ?_ GE116.out)|exact HB.out)) hb);clear BK113;clear BK114;clear BK116;clear HB;have BK113 := n0_;have BK114 := n1_;have BK116 := n2_;have HB := n3_;clear n0_ n1_ n2_ n3_;(try clear hb);(try clear hb2);(try clear hk);(try clear hi);have hcz23_0 : w22.cell? ⟨gb116, 0, none⟩ = some (.int .i64 ((rd_T47 l0_0 x15_1).f0)) := (blk_cell BK116.out 0).trans rfl;have hcz23_1 : w22.cell? ⟨gb116, 1, none⟩ = some (.slice A115_1 ((rd_T47 l0_0 x15_1).f1).length c115_1) := (blk_cell BK116.out 1).trans rfl;have hcz23_2 : w22.cell? ⟨gb116, 2, none⟩ = some (.slice A115_2 ((rd_T47 l0_0 x15_1).f2).length c115_2) := (blk_cell BK116.out 2).trans rfl;have hfz23_0 := blk_frozen BK116.out 0;have hfz23_1 := blk_frozen BK116.out 1;have hfz23_2 := blk_frozen BK116.out 2)|((with_reducible refine gate_callee (f := 33) rfl ?_);refine goesL_ (some 29) rfl rfl Try.func33 (by kernel_rfl) rfl #[.agg #[.int .i64 ((rd_T47 l0_0 x15_1).f0), .slice A115_1 ((rd_T47 l0_0 x15_1).f1).length c115_1, .slice A115_2 ((rd_T47 l0_0 x15_1).f2).length c115_2]] rfl (by (try simp only [List.map_toArray, List.map_cons, List.map_nil]);first|done|rfl|(simp only [List.length_drop, List.length_take];rfl)) ?_;(with_reducible refine (textpatch_End.calls ((rd_T47 l0_0 x15_1).f0) _ _ ((rd_T47 l0_0 x15_1).f1) _ _ ((rd_T47 l0_0 x15_1).f2) t118 _ ?side1 ?side2 ?side3 ?side4 A17.out).mono ?_);(case side1 => repeat (first|exact (Kd.C_below HR115_1.out HB.out)|(with_reducible refine Kd.C_alloc ?_ _)|(with_reducible refine Kd.C_drewN ?_ _)|(with_reducible refine Kd.C_drew ?_)));(case side2 => exact HC115_1.out);(case side3 => repeat (first|exact (Kd.C_below HR115_2.out HB.out)|(with_reducible refine Kd.C_alloc ?_ _)|(with_reducible refine Kd.C_drewN ?_ _)|(with_reducible refine Kd.C_drew ?_)));(case side4 => exact HC115_2.out);rintro e w24 ⟨rfl, hb⟩;refine ⟨_, rfl, ?_⟩;have n0_ := Aside0.mk (blk_below (g := gb113) (o := .cells #[.slice (some ad115) l0_0.length c0_0] 24 (0, 0)) (by (with_reducible repeat first|apply bN|apply bD|apply bA);exact BK113.out) hb);have n1_ := Aside0.mk (blk_below (g := gb114) (o := .cells #[.int .i64 x115000_1, .int .i64 x115001_1] 27 (0, 0)) (by (with_reducible repeat first|apply bN|apply bD|apply bA);exact BK114.out) hb);have n2_ := Aside0.mk (blk_below (g := gb116) (o := .cells #[.int .i64 ((rd_T47 l0_0 x15_1).f0), .slice A115_1 ((rd_T47 l0_0 x15_1).f1).length c115_1, .slice A115_2 ((rd_T47 l0_0 x15_1).f2).length c115_2] 47 (0, 0)) (by (with_reducible repeat first|apply bN|apply bD|apply bA);exact BK116.out) hb);have n3_ := Aside0.mk (below_step (by repeat (first|(with_reducible first|exact HB.out|apply eA|apply eN|apply eD|refine below_set ?_ GE113.out|refine below_set ?_ GE114.out|refine below_set ?_ GE116.out)|exact HB.out)) hb);clear BK113;clear BK114;clear BK116;clear HB;have BK113 := n0_;have BK114 := n1_;have BK116 := n2_;have HB := n3_;clear n0_ n1_ n2_ n3_;(try clear hb);(try clear hb2);(try clear hk);(try clear hi)))
                go_roundg k1
                case measure => have := HK1.out;omega
                case rel => exact ⟨(wrap64 (t118 + 1)), (wrap64 (x15_1 + 1)), (x115000_1), (x115001_1), (by first|rfl|(simp;done)|(simp [*];done)), (by first|rfl|(simp;done)|(simp [*];done)), H', ⟨by have := HK1.out;omega⟩, ⟨by (with_reducible repeat first|apply bN|apply bD|apply bA);exact BK113.out⟩, ⟨by (with_reducible repeat first|apply bN|apply bD|apply bA);exact BK114.out⟩, ⟨by repeat (first|(with_reducible first|exact HB.out|apply eA|apply eN|apply eD|refine below_set ?_ GE113.out|refine below_set ?_ GE114.out|refine below_set ?_ GE116.out)|exact HB.out)⟩⟩
              · rw [if_neg c16] at H
                have c16b0 : (t117 == 0) = false := beq_eq_false_iff_ne.mpr c16
                have c16b1 : (t117 != 0) = true := bne_iff_ne.mpr c16
                simp only [Option.some.injEq, Prod.mk.injEq] at H
                obtain ⟨rfl, rfl⟩ := H
                have p115 : 0 ≤ (x15_1 : Int) := of_decide_eq_true (by first|(with_reducible assumption)|assumption)
                have q115 : x15_1 < (l0_0.length : Int) := of_decide_eq_true (by first|(with_reducible assumption)|assumption)
                obtain ⟨ad115, A115_1, c115_1, A115_2, c115_2, e115, hx115_0, hx115_1, hx115_2, hl115_1, hi115_1, hl115_2, hi115_2⟩ := at_T47 HR0_0.out x15_1 p115 q115
                cases e115
                replace hx115_0 := (HB.out.cell (World.block_lt_of_cell? w _ hx115_0)).trans hx115_0
                replace hx115_1 := (HB.out.cell (World.block_lt_of_cell? w _ hx115_1)).trans hx115_1
                replace hx115_2 := (HB.out.cell (World.block_lt_of_cell? w _ hx115_2)).trans hx115_2
                have HR115_1 := Aside0.mk hi115_1
                have HC115_1 := Aside0.mk hl115_1
                clear hi115_1 hl115_1
                have HR115_2 := Aside0.mk hi115_2
                have HC115_2 := Aside0.mk hl115_2
                clear hi115_2 hl115_2
                replace p115 := eq_true p115
                replace q115 := eq_true q115
                go_wp2_with (first|((with_reducible refine gate_dst (N := 5) rfl ?_);refine box_event ?hg (N := 5) ?hd (cs := #[.int .i64 0, .slice none 0 0, .slice none 0 0]) (t := 47) ?hr ?_;(case hd => rfl);(case hg => rfl);(case hr => first|(go_simp;done)|(go_simp;rfl));intro gb116 hg w25 hbox hb;have n0_ := Aside0.mk (blk_below (g := gb113) (o := .cells #[.slice (some ad115) l0_0.length c0_0] 24 (0, 0)) (by (with_reducible repeat first|apply bN|apply bD|apply bA);exact BK113.out) hb);have n1_ := Aside0.mk (blk_below (g := gb114) (o := .cells #[.int .i64 x115000_1, .int .i64 x115001_1] 27 (0, 0)) (by (with_reducible repeat first|apply bN|apply bD|apply bA);exact BK114.out) hb);have n2_ := Aside0.mk (below_step (by repeat (first|(with_reducible first|exact HB.out|apply eA|apply eN|apply eD|refine below_set ?_ GE113.out|refine below_set ?_ GE114.out)|exact HB.out)) hb);have n3_ := Aside0.mk (hbox);have n4_ := Aside0.mk ((by rw [hg];exact (below_size (by repeat (first|(with_reducible first|exact HB.out|apply eA|apply eN|apply eD|refine below_set ?_ GE113.out|refine below_set ?_ GE114.out)|exact HB.out))) : w.heap.size ≤ gb116));have n5_ := Aside0.mk ((by rw [hg];exact (below_size (by repeat (first|(with_reducible first|exact HB.out|apply eA|apply eN|apply eD|refine below_set ?_ GE113.out|refine below_set ?_ GE114.out)|exact HB.out))) : w.heap.size ≤ gb116));have n6_ := Aside0.mk ((by rw [hg];exact Nat.ne_of_lt (blk_lt (g := gb113) (o := .cells #[.slice (some ad115) l0_0.length c0_0] 24 (0, 0)) (by (with_reducible repeat first|apply bN|apply bD|apply bA);exact BK113.out)) : gb113 ≠ gb116));have n7_ := Aside0.mk ((by rw [hg];exact Nat.ne_of_gt (blk_lt (g := gb113) (o := .cells #[.slice (some ad115) l0_0.length c0_0] 24 (0, 0)) (by (with_reducible repeat first|apply bN|apply bD|apply bA);exact BK113.out)) : gb116 ≠ gb113));have n8_ := Aside0.mk ((by rw [hg];exact Nat.ne_of_lt (blk_lt (g := gb114) (o := .cells #[.int .i64 x115000_1, .int .i64 x115001_1] 27 (0, 0)) (by (with_reducible repeat first|apply bN|apply bD|apply bA);exact BK114.out)) : gb114 ≠ gb116));have n9_ := Aside0.mk ((by rw [hg];exact Nat.ne_of_gt (blk_lt (g := gb114) (o := .cells #[.int .i64 x115000_1, .int .i64 x115001_1] 27 (0, 0)) (by (with_reducible repeat first|apply bN|apply bD|apply bA);exact BK114.out)) : gb116 ≠ gb114));clear BK113;clear BK114;clear HB;have BK113 := n0_;have BK114 := n1_;have HB := n2_;have BK116 := n3_;have GW116 := n4_;have GE116 := n5_;have NB113_116 := n6_;have NB116_113 := n7_;have NB114_116 := n8_;have NB116_114 := n9_;clear n0_ n1_ n2_ n3_ n4_ n5_ n6_ n7_ n8_ n9_;clear hb hbox hg;have hnb26 := NB116_113.out;have hnc26 := NB113_116.out;have hnb27 := NB116_114.out;have hnc27 := NB114_116.out;have hcz28_0 : w25.cell? ⟨gb116, 0, none⟩ = some (.int .i64 0) := (blk_cell BK116.out 0).trans rfl;have hcz28_1 : w25.cell? ⟨gb116, 1, none⟩ = some (.slice none 0 0) := (blk_cell BK116.out 1).trans rfl;have hcz28_2 : w25.cell? ⟨gb116, 2, none⟩ = some (.slice none 0 0) := (blk_cell BK116.out 2).trans rfl;have hfz28_0 := blk_frozen BK116.out 0;have hfz28_1 := blk_frozen BK116.out 1;have hfz28_2 := blk_frozen BK116.out 2)|((with_reducible refine gate_callee (f := 43) rfl ?_);refine goesL_ (some 22) rfl rfl Try.func43 (by kernel_rfl) rfl #[.agg #[.int .i64 ((rd_T47 l0_0 x15_1).f0), .slice A115_1 ((rd_T47 l0_0 x15_1).f1).length c115_1, .slice A115_2 ((rd_T47 l0_0 x15_1).f2).length c115_2], .int .i64 x3_1] rfl (by (try simp only [List.map_toArray, List.map_cons, List.map_nil]);first|done|rfl|(simp only [List.length_drop, List.length_take];rfl)) ?_;(with_reducible refine (textpatch_hunkCode.calls ((rd_T47 l0_0 x15_1).f0) _ _ ((rd_T47 l0_0 x15_1).f1) _ _ ((rd_T47 l0_0 x15_1).f2) x3_1 t117 _ ?side1 ?side2 ?side3 ?side4 A15.out).mono ?_);(case side1 => exact Kd.C_below HR115_1.out (by repeat (first|(with_reducible first|exact HB.out|apply eA|apply eN|apply eD|refine below_set ?_ GE113.out|refine below_set ?_ GE114.out|refine below_set ?_ GE116.out)|exact HB.out)));(case side2 => exact HC115_1.out);(case side3 => exact Kd.C_below HR115_2.out (by repeat (first|(with_reducible first|exact HB.out|apply eA|apply eN|apply eD|refine below_set ?_ GE113.out|refine below_set ?_ GE114.out|refine below_set ?_ GE116.out)|exact HB.out)));(case side4 => exact HC115_2.out);rintro e w29 ⟨rfl, hb⟩;refine ⟨_, rfl, ?_⟩;have n0_ := Aside0.mk (blk_below (g := gb113) (o := .cells #[.slice (some ad115) l0_0.length c0_0] 24 (0, 0)) (by (with_reducible repeat first|apply bN|apply bD|apply bA);refine blk_far ?_ NB113_116.out _;(with_reducible repeat first|apply bN|apply bD|apply bA);refine blk_far ?_ NB113_116.out _;(with_reducible repeat first|apply bN|apply bD|apply bA);refine blk_far ?_ NB113_116.out _;(with_reducible repeat first|apply bN|apply bD|apply bA);exact BK113.out) hb);have n1_ := Aside0.mk (blk_below (g := gb114) (o := .cells #[.int .i64 x115000_1, .int .i64 x115001_1] 27 (0, 0)) (by (with_reducible repeat first|apply bN|apply bD|apply bA);refine blk_far ?_ NB114_116.out _;(with_reducible repeat first|apply bN|apply bD|apply bA);refine blk_far ?_ NB114_116.out _;(with_reducible repeat first|apply bN|apply bD|apply bA);refine blk_far ?_ NB114_116.out _;(with_reducible repeat first|apply bN|apply bD|apply bA);exact BK114.out) hb);have n2_ := Aside0.mk (blk_below (g := gb116) (o := .cells #[.int .i64 ((rd_T47 l0_0 x15_1).f0), .slice A115_1 ((rd_T47 l0_0 x15_1).f1).length c115_1, .slice A115_2 ((rd_T47 l0_0 x15_1).f2).length c115_2] 47 (0, 0)) (by (with_reducible repeat first|apply bN|apply bD|apply bA);refine blk_put (cs := #[.int .i64 ((rd_T47 l0_0 x15_1).f0), .slice A115_1 ((rd_T47 l0_0 x15_1).f1).length c115_1, .slice none 0 0]) ?_ 2 _ rfl;(with_reducible repeat first|apply bN|apply bD|apply bA);refine blk_put (cs := #[.int .i64 ((rd_T47 l0_0 x15_1).f0), .slice none 0 0, .slice none 0 0]) ?_ 1 _ rfl;(with_reducible repeat first|apply bN|apply bD|apply bA);refine blk_put (cs := #[.int .i64 0, .slice none 0 0, .slice none 0 0]) ?_ 0 _ rfl;(with_reducible repeat first|apply bN|apply bD|apply bA);exact BK116.out) hb);have n3_ := Aside0.mk (below_step (by repeat (first|(with_reducible first|exact HB.out|apply eA|apply eN|apply eD|refine below_set ?_ GE113.out|refine below_set ?_ GE114.out|refine below_set ?_ GE116.out)|exact HB.out)) hb);clear BK113;clear BK114;clear BK116;clear HB;have BK113 := n0_;have BK114 := n1_;have BK116 := n2_;have HB := n3_;clear n0_ n1_ n2_ n3_;(try clear hb);(try clear hb2);(try clear hk);(try clear hi);have hnb30 := NB114_113.out;have hnc30 := NB113_114.out;have hcz31_0 : w29.cell? ⟨gb114, 0, none⟩ = some (.int .i64 x115000_1) := (blk_cell BK114.out 0).trans rfl;have hcz31_1 : w29.cell? ⟨gb114, 1, none⟩ = some (.int .i64 x115001_1) := (blk_cell BK114.out 1).trans rfl;have hfz31_0 := blk_frozen BK114.out 0;have hfz31_1 := blk_frozen BK114.out 1))
                refine bodyPost_ret (results_cell_row rfl _ _ gb114 27 #[.int .i64 t117, .int .i64 x15_1] (0, 0) _ rfl (by (with_reducible repeat first|apply bN|apply bD|apply bA);refine blk_put (cs := #[.int .i64 t117, .int .i64 x115001_1]) ?_ 1 _ rfl;(with_reducible repeat first|apply bN|apply bD|apply bA);refine blk_put (cs := #[.int .i64 x115000_1, .int .i64 x115001_1]) ?_ 0 _ rfl;(with_reducible repeat first|apply bN|apply bD|apply bA);exact BK114.out) Try.underlying27 rfl (by kernel_rfl)) rfl ?_
                exact ⟨by first|rfl|(simp [errW_none, errW_some] <;> rfl)|(simp [*, errW_none, errW_some] <;> rfl), by repeat (first|(with_reducible first|exact HB.out|apply eA|apply eN|apply eD|refine below_set ?_ GE113.out|refine below_set ?_ GE114.out|refine below_set ?_ GE116.out)|exact HB.out)⟩
            · rw [if_neg c14] at H
              exact absurd H (by simp)
          · rw [if_neg c13] at H
            exact absurd H (by simp)
        · rw [if_neg c12] at H
          have c12b0 : decide (x15_1 < (l0_0.length : Int)) = false := decide_eq_false c12
          clear c12
          simp only [Option.some.injEq, Prod.mk.injEq] at H
          obtain ⟨rfl, rfl⟩ := H
          have hnb32 := NB114_113.out
          have hnc32 := NB113_114.out
          have hcz33_0 : wr.cell? ⟨gb114, 0, none⟩ = some (.int .i64 x115000_1) := (blk_cell BK114.out 0).trans rfl
          have hcz33_1 : wr.cell? ⟨gb114, 1, none⟩ = some (.int .i64 x115001_1) := (blk_cell BK114.out 1).trans rfl
          have hfz33_0 := blk_frozen BK114.out 0
          have hfz33_1 := blk_frozen BK114.out 1
          go_wp2
          refine bodyPost_ret (results_cell_row rfl _ _ gb114 27 #[.int .i64 0, .int .i64 0] (0, 0) _ rfl (by (with_reducible repeat first|apply bN|apply bD|apply bA);refine blk_put (cs := #[.int .i64 0, .int .i64 x115001_1]) ?_ 1 _ rfl;(with_reducible repeat first|apply bN|apply bD|apply bA);refine blk_put (cs := #[.int .i64 x115000_1, .int .i64 x115001_1]) ?_ 0 _ rfl;(with_reducible repeat first|apply bN|apply bD|apply bA);exact BK114.out) Try.underlying27 rfl (by kernel_rfl)) rfl ?_
          exact ⟨by first|rfl|(simp [errW_none, errW_some] <;> rfl)|(simp [*, errW_none, errW_some] <;> rfl), by repeat (first|(with_reducible first|exact HB.out|apply eA|apply eN|apply eD|refine below_set ?_ GE113.out|refine below_set ?_ GE114.out)|exact HB.out)⟩

/-! ### textpatch_Validate: function 19 -/
theorem textpatch_Validate_0.loop (xs : List S47) (hl : xs.length ≤ 130) (d : Nat) : ∀ (k i : Nat) (low : Int), i ≤ xs.length → xs.length - i = d → d < k → textpatch_Validate_0.l0 k low xs (xs.length : Int) (i : Int) = some (pvGo ((xs.drop i).map (fun x_ : S47 => ((x_.f0, x_.f1, x_.f2) : Hk))) low (i : Int)) := by
  induction d with
  | zero =>
    intro k i low hi hd hk
    obtain ⟨k, rfl⟩ : ∃ m, k = m + 1 := ⟨k - 1, by omega⟩
    simp only [textpatch_Validate_0.l0]
    rw [if_neg (by omega), List.drop_eq_nil_of_le (by omega)]
    rfl
  | succ d ih =>
    intro k i low hi hd hk
    obtain ⟨k, rfl⟩ : ∃ m, k = m + 1 := ⟨k - 1, by omega⟩
    have hdr : xs.drop i = rd_T47 xs (i : Int) :: xs.drop (i + 1) := rdOf_drop z47 xs i (by omega)
    rw [hdr, List.map_cons]
    simp only [textpatch_Validate_0.l0, textpatch_hunkCode.f, textpatch_End.f, Option.bind_some]
    generalize rd_T47 xs (i : Int) = h
    rw [if_pos (by omega), if_pos (by omega), if_pos (by omega), pvGo]
    by_cases c : hkCode (h.f0, h.f1, h.f2) low = 0
    · have hok := (hkCode_zero _ _).1 c
      have h1 := hok.1
      have h2 := hok.2.1
      have h3 := (linesFault_ok.1 hok.2.2.2.1).1
      simp only at h1 h2 h3
      rw [if_pos c, if_pos c, w64 (n := h.f0 + (h.f1.length : Int)) (by omega) (by omega), w64 (n := h.f0 + (h.f1.length : Int) + 1) (by omega) (by omega), w64 (n := (i : Int) + 1) (by omega) (by omega)]
      have := ih k (i + 1) (hkEnd (h.f0, h.f1, h.f2) + 1) (by omega) (by omega) (by omega)
      rw [show ((i + 1 : Nat) : Int) = (i : Int) + 1 by omega] at this
      exact this
    · rw [if_neg c, if_neg c]
def textpatch_Validate.f (l0_0 : List (S47)) : Option (Int × Int) :=  some (patchFault (l0_0.map (fun x_ : S47 => ((x_.f0, x_.f1, x_.f2) : Hk))))
theorem textpatch_Validate.calls (A0_0 : Option Addr) (c0_0 : Nat) (l0_0 : List (S47)) (r1 : Int) (r2 : Int) (w : World) (hr0_0 : Kd.C k47 w A0_0 l0_0.length l0_0) (hc0_0 : l0_0.length ≤ c0_0) (h : textpatch_Validate.f l0_0 = some (r1, r2)) :
    Calls Try.prog 19 #[.agg #[.slice A0_0 l0_0.length c0_0]] w fun e w' => e = .returned (.agg #[.int .i64 r1, .int .i64 r2]) ∧ Below w.heap.size w w' := by
  have h' : textpatch_Validate_0.f 131 l0_0 = some (r1, r2) := by
    rw [← h]
    unfold textpatch_Validate_0.f textpatch_Validate.f patchFault
    rw [List.length_map]
    by_cases c : 130 < l0_0.length
    · rw [if_pos (by omega), if_pos c]
    · rw [if_neg (by omega), if_neg c]
      exact textpatch_Validate_0.loop l0_0 (by omega) l0_0.length 131 0 0 (by omega) (by omega) (by omega)
  exact (textpatch_Validate_0.calls (131) A0_0 c0_0 l0_0 r1 r2 w hr0_0 hc0_0 (h'))


/-! ### slices_Clone_string_string: function 39 -/
def slices_Clone_string_string.f (l0 : List ByteArray) : Option (List ByteArray) :=  if l0.length ≤ 8796093022208 then some l0 else none
theorem slices_Clone_string_string.calls (A0 : Option Addr) (c0 : Nat) (l0 : List ByteArray) (r : List ByteArray) (w : World) (hr0 : Kd.C Kd.string w A0 l0.length l0) (hc0 : l0.length ≤ c0) (h : slices_Clone_string_string.f l0 = some r) :
    Calls Try.prog 39 #[.slice A0 l0.length c0] w fun e w' => ∃ v0_ : Value, e = .returned (v0_) ∧ Kd.R Kd.string 9 w' w.heap.size (fun _ => True) v0_ r ∧ Below w.heap.size w w' := by
  replace h : (if l0.length ≤ 8796093022208 then some l0 else none) = some r := h
  by_cases hb : l0.length ≤ 8796093022208
  · rw [if_pos hb] at h
    obtain rfl := Option.some.inj h
    cases A0 with
    | none =>
      have hl : l0 = [] := by
        have := (Kd.reads_of_C (enc := Value.string) (d := ByteArray.empty) (h1 := fun _ => rfl) hr0).2.2
        cases l0 with
        | nil => rfl
        | cons a r => obtain ⟨ad, e, _⟩ := this (by simp); cases e
      subst hl
      refine (Try.slices_Clone_string_nil 0 c0 w).mono fun e w' ⟨he, hw⟩ => ⟨_, he, Kd.R_nil _ _ _ _ _, by rw [hw]; exact Below.refl _ _⟩
    | some a =>
      by_cases h0 : l0.length = 0
      · have hl : l0 = [] := List.eq_nil_of_length_eq_zero h0
        subst hl
        refine (Try.slices_Clone_string_zero a c0 w).mono fun e w' ⟨v', he, ho, _, hbel⟩ => ⟨v', he, Kd.R_of_own (enc := Value.string) (h1 := fun _ => rfl) (xs := []) ho (fun _ _ => trivial), hbel⟩
      · obtain ⟨ad, e, hc⟩ := (Kd.reads_of_C (enc := Value.string) (d := ByteArray.empty) (h1 := fun _ => rfl) hr0).2.2 (by omega)
        obtain rfl := Option.some.inj e
        obtain ⟨b, off, f⟩ := a
        obtain rfl : f = none := by
          have := hc 0 (by omega)
          cases f with
          | none => rfl
          | some s =>
            unfold Addr.add World.cell? at this
            rw [if_pos rfl] at this
            simp at this
            split at this <;> simp at this
        refine (Try.slices_Clone_string b off l0.length c0 l0 w (Nat.le_refl _) (by omega) ?_).mono fun e w' ⟨v', he, ho, _, hbel⟩ => ⟨v', he, Kd.R_of_own (enc := Value.string) (h1 := fun _ => rfl) (xs := l0) (by rw [List.take_length] at ho; exact ho) (fun _ _ => trivial), hbel⟩
        intro j hj
        have := hc j hj
        have e : (⟨b, off, none⟩ : Addr).add j = ⟨b, off + j, none⟩ := by unfold Addr.add; split <;> simp_all
        rw [e] at this
        exact this
  · rw [if_neg hb] at h; cases h


/-! ### textpatch_Fit: function 40 -/
def textpatch_Fit.f (l0_0 : List (S47)) : Option ((List (S47)) × Int × Int) := (textpatch_Validate.f l0_0).bind fun bt122 => (if (!(bt122.1 == 0) || (!(bt122.2 == 0))) = true then (some (([] : List (S47)), 10, (-1))) else (some (l0_0, 0, 0)))
set_option maxHeartbeats 8000000 in
set_option maxRecDepth 100000 in
theorem textpatch_Fit.calls (P0_0_ : Nat → Prop) (A0_0 : Option Addr) (c0_0 : Nat) (l0_0 : List (S47)) (r1 : List (S47)) (r2 : Int) (r3 : Int) (w : World) (hs0_0 : Kd.V k47 47 w w.heap.size (fun k_ => P0_0_ k_) (.slice A0_0 l0_0.length c0_0) l0_0) (h : textpatch_Fit.f l0_0 = some (r1, r2, r3)) :
    Calls Try.prog 40 #[.agg #[.slice A0_0 l0_0.length c0_0]] w fun e w' => ∃ v0_ : Value, e = .returned (.tuple #[.agg #[v0_], .agg #[.int .i64 r2, .int .i64 r3]]) ∧ Kd.V k47 47 w' w.heap.size (fun k_ => (P0_0_ k_ ∨ w.heap.size ≤ k_)) v0_ r1 ∧ Below w.heap.size w w' := by
  have hu24 := Try.underlying24
  have hu27 := Try.underlying27
  have HO0_0 := Aside0.mk (show Kd.V k47 47 w w.heap.size (fun k_ => (P0_0_ k_ ∨ w.heap.size ≤ k_)) (.slice A0_0 l0_0.length c0_0) l0_0 from Kd.V_mono hs0_0 (fun k_ hk => .inl hk))
  have HB := Aside0.mk (Below.refl w.heap.size w)
  have H : ((textpatch_Validate.f l0_0).bind fun bt122 => (if (!(bt122.1 == 0) || (!(bt122.2 == 0))) = true then (some (([] : List (S47)), 10, (-1))) else (some (l0_0, 0, 0)))) = some (r1, r2, r3) := h
  clear h
  replace H := Option.bind_eq_some_iff.mp H
  obtain ⟨⟨t122, t123⟩, A20, H⟩ := H
  replace H : (if (!(t122 == 0) || (!(t123 == 0))) = true then (some (([] : List (S47)), 10, (-1))) else (some (l0_0, 0, 0))) = some (r1, r2, r3) := H
  have A2 := Aside0.mk A20
  clear A20
  by_cases c3 : (!(t122 == 0) || (!(t123 == 0))) = true
  · rw [if_pos c3] at H
    have c3b0 : (!(t122 == 0) || (!(t123 == 0))) = true := c3
    clear c3
    simp only [Option.some.injEq, Prod.mk.injEq] at H
    obtain ⟨rfl, rfl, rfl⟩ := H
    go_enter Try.func40, Try.ntmps40
    go_wp2_with (first|((with_reducible refine gate_dst (N := 1) rfl ?_);refine box_event ?hg (N := 1) ?hd (cs := #[.slice A0_0 l0_0.length c0_0]) (t := 24) ?hr ?_;(case hd => rfl);(case hg => rfl);(case hr => first|(go_simp;done)|(go_simp;rfl));intro gb119 hg w4 hbox hb;have n0_ := Aside0.mk (Kd.V_below (Kd.V_elderB (by (with_reducible repeat (first|apply Kd.V_alloc|apply Kd.V_drewN|apply Kd.V_drew));exact HO0_0.out) gb119 (Nat.le_of_eq hg.symm)) hb);have n1_ := Aside0.mk (below_step (by repeat (first|(with_reducible first|exact HB.out|apply eA|apply eN|apply eD)|exact HB.out)) hb);have n2_ := Aside0.mk (hbox);have n3_ := Aside0.mk ((by rw [hg];exact (below_size (by repeat (first|(with_reducible first|exact HB.out|apply eA|apply eN|apply eD)|exact HB.out))) : w.heap.size ≤ gb119));have n4_ := Aside0.mk ((by rw [hg];exact (below_size (by repeat (first|(with_reducible first|exact HB.out|apply eA|apply eN|apply eD)|exact HB.out))) : w.heap.size ≤ gb119));clear HO0_0;clear HB;have HO0_0 := n0_;have HB := n1_;have BK119 := n2_;have GW119 := n3_;have GE119 := n4_;clear n0_ n1_ n2_ n3_ n4_;clear hb hbox hg)|((with_reducible refine gate_dst (N := 2) rfl ?_);refine box_event ?hg (N := 2) ?hd (cs := #[.slice none 0 0]) (t := 24) ?hr ?_;(case hd => rfl);(case hg => rfl);(case hr => first|(go_simp;done)|(go_simp;rfl));intro gb120 hg w5 hbox hb;have n0_ := Aside0.mk (Kd.V_below (Kd.V_elderB (by (with_reducible repeat (first|apply Kd.V_alloc|apply Kd.V_drewN|apply Kd.V_drew));exact HO0_0.out) gb120 (Nat.le_of_eq hg.symm)) hb);have n1_ := Aside0.mk (blk_below (g := gb119) (o := .cells #[.slice A0_0 l0_0.length c0_0] 24 (0, 0)) (by (with_reducible repeat first|apply bN|apply bD|apply bA);exact BK119.out) hb);have n2_ := Aside0.mk (below_step (by repeat (first|(with_reducible first|exact HB.out|apply eA|apply eN|apply eD|refine below_set ?_ GE119.out)|exact HB.out)) hb);have n3_ := Aside0.mk (hbox);have n4_ := Aside0.mk ((by rw [hg];exact (below_size (by repeat (first|(with_reducible first|exact HB.out|apply eA|apply eN|apply eD|refine below_set ?_ GE119.out)|exact HB.out))) : w.heap.size ≤ gb120));have n5_ := Aside0.mk ((by rw [hg];exact (below_size (by repeat (first|(with_reducible first|exact HB.out|apply eA|apply eN|apply eD|refine below_set ?_ GE119.out)|exact HB.out))) : w.heap.size ≤ gb120));have n6_ := Aside0.mk ((by rw [hg];exact Nat.ne_of_lt (blk_lt (g := gb119) (o := .cells #[.slice A0_0 l0_0.length c0_0] 24 (0, 0)) (by (with_reducible repeat first|apply bN|apply bD|apply bA);exact BK119.out)) : gb119 ≠ gb120));have n7_ := Aside0.mk ((by rw [hg];exact Nat.ne_of_gt (blk_lt (g := gb119) (o := .cells #[.slice A0_0 l0_0.length c0_0] 24 (0, 0)) (by (with_reducible repeat first|apply bN|apply bD|apply bA);exact BK119.out)) : gb120 ≠ gb119));clear HO0_0;clear BK119;clear HB;have HO0_0 := n0_;have BK119 := n1_;have HB := n2_;have BK120 := n3_;have GW120 := n4_;have GE120 := n5_;have NB119_120 := n6_;have NB120_119 := n7_;clear n0_ n1_ n2_ n3_ n4_ n5_ n6_ n7_;clear hb hbox hg)|((with_reducible refine gate_dst (N := 3) rfl ?_);refine box_event ?hg (N := 3) ?hd (cs := #[.int .i64 0, .int .i64 0]) (t := 27) ?hr ?_;(case hd => rfl);(case hg => rfl);(case hr => first|(go_simp;done)|(go_simp;rfl));intro gb121 hg w6 hbox hb;have n0_ := Aside0.mk (Kd.V_below (Kd.V_elderB (by (with_reducible repeat (first|apply Kd.V_alloc|apply Kd.V_drewN|apply Kd.V_drew));exact HO0_0.out) gb121 (Nat.le_of_eq hg.symm)) hb);have n1_ := Aside0.mk (blk_below (g := gb119) (o := .cells #[.slice A0_0 l0_0.length c0_0] 24 (0, 0)) (by (with_reducible repeat first|apply bN|apply bD|apply bA);exact BK119.out) hb);have n2_ := Aside0.mk (blk_below (g := gb120) (o := .cells #[.slice none 0 0] 24 (0, 0)) (by (with_reducible repeat first|apply bN|apply bD|apply bA);exact BK120.out) hb);have n3_ := Aside0.mk (below_step (by repeat (first|(with_reducible first|exact HB.out|apply eA|apply eN|apply eD|refine below_set ?_ GE119.out|refine below_set ?_ GE120.out)|exact HB.out)) hb);have n4_ := Aside0.mk (hbox);have n5_ := Aside0.mk ((by rw [hg];exact (below_size (by repeat (first|(with_reducible first|exact HB.out|apply eA|apply eN|apply eD|refine below_set ?_ GE119.out|refine below_set ?_ GE120.out)|exact HB.out))) : w.heap.size ≤ gb121));have n6_ := Aside0.mk ((by rw [hg];exact (below_size (by repeat (first|(with_reducible first|exact HB.out|apply eA|apply eN|apply eD|refine below_set ?_ GE119.out|refine below_set ?_ GE120.out)|exact HB.out))) : w.heap.size ≤ gb121));have n7_ := Aside0.mk ((by rw [hg];exact Nat.ne_of_lt (blk_lt (g := gb119) (o := .cells #[.slice A0_0 l0_0.length c0_0] 24 (0, 0)) (by (with_reducible repeat first|apply bN|apply bD|apply bA);exact BK119.out)) : gb119 ≠ gb121));have n8_ := Aside0.mk ((by rw [hg];exact Nat.ne_of_gt (blk_lt (g := gb119) (o := .cells #[.slice A0_0 l0_0.length c0_0] 24 (0, 0)) (by (with_reducible repeat first|apply bN|apply bD|apply bA);exact BK119.out)) : gb121 ≠ gb119));have n9_ := Aside0.mk ((by rw [hg];exact Nat.ne_of_lt (blk_lt (g := gb120) (o := .cells #[.slice none 0 0] 24 (0, 0)) (by (with_reducible repeat first|apply bN|apply bD|apply bA);exact BK120.out)) : gb120 ≠ gb121));have n10_ := Aside0.mk ((by rw [hg];exact Nat.ne_of_gt (blk_lt (g := gb120) (o := .cells #[.slice none 0 0] 24 (0, 0)) (by (with_reducible repeat first|apply bN|apply bD|apply bA);exact BK120.out)) : gb121 ≠ gb120));clear HO0_0;clear BK119;clear BK120;clear HB;have HO0_0 := n0_;have BK119 := n1_;have BK120 := n2_;have HB := n3_;have BK121 := n4_;have GW121 := n5_;have GE121 := n6_;have NB119_121 := n7_;have NB121_119 := n8_;have NB120_121 := n9_;have NB121_120 := n10_;clear n0_ n1_ n2_ n3_ n4_ n5_ n6_ n7_ n8_ n9_ n10_;clear hb hbox hg;have hnb7 := NB119_120.out;have hnc7 := NB120_119.out;have hnb8 := NB119_121.out;have hnc8 := NB121_119.out;have hcz9_0 : w6.cell? ⟨gb119, 0, none⟩ = some (.slice A0_0 l0_0.length c0_0) := (blk_cell BK119.out 0).trans rfl;have hfz9_0 := blk_frozen BK119.out 0)|((with_reducible refine gate_callee (f := 19) rfl ?_);refine goesL_ (some 5) rfl rfl Try.func19 (by kernel_rfl) rfl #[.agg #[.slice A0_0 l0_0.length c0_0]] rfl (by (try simp only [List.map_toArray, List.map_cons, List.map_nil]);first|done|rfl|(simp only [List.length_drop, List.length_take];rfl)) ?_;(with_reducible refine (textpatch_Validate.calls _ _ l0_0 t122 t123 _ ?side1 ?side2 A2.out).mono ?_);(case side1 => repeat (first|exact (Kd.V_reads' HO0_0.out).2.2|(with_reducible refine Kd.C_alloc ?_ _)|(with_reducible refine Kd.C_drewN ?_ _)|(with_reducible refine Kd.C_drew ?_)));(case side2 => exact (Kd.V_reads' HO0_0.out).2.1);rintro e w10 ⟨rfl, hb⟩;refine ⟨_, rfl, ?_⟩;have n0_ := Aside0.mk (Kd.V_below (by (with_reducible repeat (first|apply Kd.V_alloc|apply Kd.V_drewN|apply Kd.V_drew));exact HO0_0.out) hb);have n1_ := Aside0.mk (blk_below (g := gb119) (o := .cells #[.slice A0_0 l0_0.length c0_0] 24 (0, 0)) (by (with_reducible repeat first|apply bN|apply bD|apply bA);exact BK119.out) hb);have n2_ := Aside0.mk (blk_below (g := gb120) (o := .cells #[.slice none 0 0] 24 (0, 0)) (by (with_reducible repeat first|apply bN|apply bD|apply bA);exact BK120.out) hb);have n3_ := Aside0.mk (blk_below (g := gb121) (o := .cells #[.int .i64 0, .int .i64 0] 27 (0, 0)) (by (with_reducible repeat first|apply bN|apply bD|apply bA);exact BK121.out) hb);have n4_ := Aside0.mk (below_step (by repeat (first|(with_reducible first|exact HB.out|apply eA|apply eN|apply eD|refine below_set ?_ GE119.out|refine below_set ?_ GE120.out|refine below_set ?_ GE121.out)|exact HB.out)) hb);clear HO0_0;clear BK119;clear BK120;clear BK121;clear HB;have HO0_0 := n0_;have BK119 := n1_;have BK120 := n2_;have BK121 := n3_;have HB := n4_;clear n0_ n1_ n2_ n3_ n4_;(try clear hb);(try clear hb2);(try clear hk);(try clear hi);have hnb11 := NB120_121.out;have hnc11 := NB121_120.out;have hcz12_0 : w10.cell? ⟨gb120, 0, none⟩ = some (.slice none 0 0) := (blk_cell BK120.out 0).trans rfl;have hfz12_0 := blk_frozen BK120.out 0;have hcz13_0 : w10.cell? ⟨gb121, 0, none⟩ = some (.int .i64 0) := (blk_cell BK121.out 0).trans rfl;have hcz13_1 : w10.cell? ⟨gb121, 1, none⟩ = some (.int .i64 0) := (blk_cell BK121.out 1).trans rfl;have hfz13_0 := blk_frozen BK121.out 0;have hfz13_1 := blk_frozen BK121.out 1))
    refine bodyPost_ret (results_cc rfl _ _ gb120 gb121 24 27 #[.slice none 0 0] #[.int .i64 10, .int .i64 (-1)] (0, 0) (0, 0) _ _ rfl (by (with_reducible repeat first|apply bN|apply bD|apply bA);refine blk_far ?_ NB120_121.out _;(with_reducible repeat first|apply bN|apply bD|apply bA);refine blk_far ?_ NB120_121.out _;(with_reducible repeat first|apply bN|apply bD|apply bA);refine blk_put (cs := #[.slice none 0 0]) ?_ 0 _ rfl;(with_reducible repeat first|apply bN|apply bD|apply bA);exact BK120.out) Try.underlying24 rfl (by kernel_rfl) rfl (by (with_reducible repeat first|apply bN|apply bD|apply bA);refine blk_put (cs := #[.int .i64 10, .int .i64 0]) ?_ 1 _ rfl;(with_reducible repeat first|apply bN|apply bD|apply bA);refine blk_put (cs := #[.int .i64 0, .int .i64 0]) ?_ 0 _ rfl;(with_reducible repeat first|apply bN|apply bD|apply bA);refine blk_far ?_ NB121_120.out _;(with_reducible repeat first|apply bN|apply bD|apply bA);exact BK121.out) Try.underlying27 rfl (by kernel_rfl)) rfl ?_
    exact ⟨_, by first|rfl|(simp [errW_none, errW_some] <;> rfl)|(simp [*, errW_none, errW_some] <;> rfl), Kd.V_mono (Kd.S_V (Kd.S_nil _ _ _ 0 _)) (fun k_ hk => by first|exact ⟨(.inr (hk.1)), hk.2⟩|exact (.inr (hk))), by repeat (first|(with_reducible first|exact HB.out|apply eA|apply eN|apply eD|refine below_set ?_ GE119.out|refine below_set ?_ GE120.out|refine below_set ?_ GE121.out)|exact HB.out)⟩
  · rw [if_neg c3] at H
    have c3b0 : (!(t122 == 0) || (!(t123 == 0))) = false := by simpa using c3
    clear c3
    simp only [Option.some.injEq, Prod.mk.injEq] at H
    obtain ⟨rfl, rfl, rfl⟩ := H
    go_enter Try.func40, Try.ntmps40
    go_wp2_with (first|((with_reducible refine gate_dst (N := 1) rfl ?_);refine box_event ?hg (N := 1) ?hd (cs := #[.slice A0_0 l0_0.length c0_0]) (t := 24) ?hr ?_;(case hd => rfl);(case hg => rfl);(case hr => first|(go_simp;done)|(go_simp;rfl));intro gb119 hg w14 hbox hb;have n0_ := Aside0.mk (Kd.V_below (Kd.V_elderB (by (with_reducible repeat (first|apply Kd.V_alloc|apply Kd.V_drewN|apply Kd.V_drew));exact HO0_0.out) gb119 (Nat.le_of_eq hg.symm)) hb);have n1_ := Aside0.mk (below_step (by repeat (first|(with_reducible first|exact HB.out|apply eA|apply eN|apply eD)|exact HB.out)) hb);have n2_ := Aside0.mk (hbox);have n3_ := Aside0.mk ((by rw [hg];exact (below_size (by repeat (first|(with_reducible first|exact HB.out|apply eA|apply eN|apply eD)|exact HB.out))) : w.heap.size ≤ gb119));have n4_ := Aside0.mk ((by rw [hg];exact (below_size (by repeat (first|(with_reducible first|exact HB.out|apply eA|apply eN|apply eD)|exact HB.out))) : w.heap.size ≤ gb119));clear HO0_0;clear HB;have HO0_0 := n0_;have HB := n1_;have BK119 := n2_;have GW119 := n3_;have GE119 := n4_;clear n0_ n1_ n2_ n3_ n4_;clear hb hbox hg)|((with_reducible refine gate_dst (N := 2) rfl ?_);refine box_event ?hg (N := 2) ?hd (cs := #[.slice none 0 0]) (t := 24) ?hr ?_;(case hd => rfl);(case hg => rfl);(case hr => first|(go_simp;done)|(go_simp;rfl));intro gb120 hg w15 hbox hb;have n0_ := Aside0.mk (Kd.V_below (Kd.V_elderB (by (with_reducible repeat (first|apply Kd.V_alloc|apply Kd.V_drewN|apply Kd.V_drew));exact HO0_0.out) gb120 (Nat.le_of_eq hg.symm)) hb);have n1_ := Aside0.mk (blk_below (g := gb119) (o := .cells #[.slice A0_0 l0_0.length c0_0] 24 (0, 0)) (by (with_reducible repeat first|apply bN|apply bD|apply bA);exact BK119.out) hb);have n2_ := Aside0.mk (below_step (by repeat (first|(with_reducible first|exact HB.out|apply eA|apply eN|apply eD|refine below_set ?_ GE119.out)|exact HB.out)) hb);have n3_ := Aside0.mk (hbox);have n4_ := Aside0.mk ((by rw [hg];exact (below_size (by repeat (first|(with_reducible first|exact HB.out|apply eA|apply eN|apply eD|refine below_set ?_ GE119.out)|exact HB.out))) : w.heap.size ≤ gb120));have n5_ := Aside0.mk ((by rw [hg];exact (below_size (by repeat (first|(with_reducible first|exact HB.out|apply eA|apply eN|apply eD|refine below_set ?_ GE119.out)|exact HB.out))) : w.heap.size ≤ gb120));have n6_ := Aside0.mk ((by rw [hg];exact Nat.ne_of_lt (blk_lt (g := gb119) (o := .cells #[.slice A0_0 l0_0.length c0_0] 24 (0, 0)) (by (with_reducible repeat first|apply bN|apply bD|apply bA);exact BK119.out)) : gb119 ≠ gb120));have n7_ := Aside0.mk ((by rw [hg];exact Nat.ne_of_gt (blk_lt (g := gb119) (o := .cells #[.slice A0_0 l0_0.length c0_0] 24 (0, 0)) (by (with_reducible repeat first|apply bN|apply bD|apply bA);exact BK119.out)) : gb120 ≠ gb119));clear HO0_0;clear BK119;clear HB;have HO0_0 := n0_;have BK119 := n1_;have HB := n2_;have BK120 := n3_;have GW120 := n4_;have GE120 := n5_;have NB119_120 := n6_;have NB120_119 := n7_;clear n0_ n1_ n2_ n3_ n4_ n5_ n6_ n7_;clear hb hbox hg)|((with_reducible refine gate_dst (N := 3) rfl ?_);refine box_event ?hg (N := 3) ?hd (cs := #[.int .i64 0, .int .i64 0]) (t := 27) ?hr ?_;(case hd => rfl);(case hg => rfl);(case hr => first|(go_simp;done)|(go_simp;rfl));intro gb121 hg w16 hbox hb;have n0_ := Aside0.mk (Kd.V_below (Kd.V_elderB (by (with_reducible repeat (first|apply Kd.V_alloc|apply Kd.V_drewN|apply Kd.V_drew));exact HO0_0.out) gb121 (Nat.le_of_eq hg.symm)) hb);have n1_ := Aside0.mk (blk_below (g := gb119) (o := .cells #[.slice A0_0 l0_0.length c0_0] 24 (0, 0)) (by (with_reducible repeat first|apply bN|apply bD|apply bA);exact BK119.out) hb);have n2_ := Aside0.mk (blk_below (g := gb120) (o := .cells #[.slice none 0 0] 24 (0, 0)) (by (with_reducible repeat first|apply bN|apply bD|apply bA);exact BK120.out) hb);have n3_ := Aside0.mk (below_step (by repeat (first|(with_reducible first|exact HB.out|apply eA|apply eN|apply eD|refine below_set ?_ GE119.out|refine below_set ?_ GE120.out)|exact HB.out)) hb);have n4_ := Aside0.mk (hbox);have n5_ := Aside0.mk ((by rw [hg];exact (below_size (by repeat (first|(with_reducible first|exact HB.out|apply eA|apply eN|apply eD|refine below_set ?_ GE119.out|refine below_set ?_ GE120.out)|exact HB.out))) : w.heap.size ≤ gb121));have n6_ := Aside0.mk ((by rw [hg];exact (below_size (by repeat (first|(with_reducible first|exact HB.out|apply eA|apply eN|apply eD|refine below_set ?_ GE119.out|refine below_set ?_ GE120.out)|exact HB.out))) : w.heap.size ≤ gb121));have n7_ := Aside0.mk ((by rw [hg];exact Nat.ne_of_lt (blk_lt (g := gb119) (o := .cells #[.slice A0_0 l0_0.length c0_0] 24 (0, 0)) (by (with_reducible repeat first|apply bN|apply bD|apply bA);exact BK119.out)) : gb119 ≠ gb121));have n8_ := Aside0.mk ((by rw [hg];exact Nat.ne_of_gt (blk_lt (g := gb119) (o := .cells #[.slice A0_0 l0_0.length c0_0] 24 (0, 0)) (by (with_reducible repeat first|apply bN|apply bD|apply bA);exact BK119.out)) : gb121 ≠ gb119));have n9_ := Aside0.mk ((by rw [hg];exact Nat.ne_of_lt (blk_lt (g := gb120) (o := .cells #[.slice none 0 0] 24 (0, 0)) (by (with_reducible repeat first|apply bN|apply bD|apply bA);exact BK120.out)) : gb120 ≠ gb121));have n10_ := Aside0.mk ((by rw [hg];exact Nat.ne_of_gt (blk_lt (g := gb120) (o := .cells #[.slice none 0 0] 24 (0, 0)) (by (with_reducible repeat first|apply bN|apply bD|apply bA);exact BK120.out)) : gb121 ≠ gb120));clear HO0_0;clear BK119;clear BK120;clear HB;have HO0_0 := n0_;have BK119 := n1_;have BK120 := n2_;have HB := n3_;have BK121 := n4_;have GW121 := n5_;have GE121 := n6_;have NB119_121 := n7_;have NB121_119 := n8_;have NB120_121 := n9_;have NB121_120 := n10_;clear n0_ n1_ n2_ n3_ n4_ n5_ n6_ n7_ n8_ n9_ n10_;clear hb hbox hg;have hnb17 := NB119_120.out;have hnc17 := NB120_119.out;have hnb18 := NB119_121.out;have hnc18 := NB121_119.out;have hcz19_0 : w16.cell? ⟨gb119, 0, none⟩ = some (.slice A0_0 l0_0.length c0_0) := (blk_cell BK119.out 0).trans rfl;have hfz19_0 := blk_frozen BK119.out 0)|((with_reducible refine gate_callee (f := 19) rfl ?_);refine goesL_ (some 5) rfl rfl Try.func19 (by kernel_rfl) rfl #[.agg #[.slice A0_0 l0_0.length c0_0]] rfl (by (try simp only [List.map_toArray, List.map_cons, List.map_nil]);first|done|rfl|(simp only [List.length_drop, List.length_take];rfl)) ?_;(with_reducible refine (textpatch_Validate.calls _ _ l0_0 t122 t123 _ ?side1 ?side2 A2.out).mono ?_);(case side1 => repeat (first|exact (Kd.V_reads' HO0_0.out).2.2|(with_reducible refine Kd.C_alloc ?_ _)|(with_reducible refine Kd.C_drewN ?_ _)|(with_reducible refine Kd.C_drew ?_)));(case side2 => exact (Kd.V_reads' HO0_0.out).2.1);rintro e w20 ⟨rfl, hb⟩;refine ⟨_, rfl, ?_⟩;have n0_ := Aside0.mk (Kd.V_below (by (with_reducible repeat (first|apply Kd.V_alloc|apply Kd.V_drewN|apply Kd.V_drew));exact HO0_0.out) hb);have n1_ := Aside0.mk (blk_below (g := gb119) (o := .cells #[.slice A0_0 l0_0.length c0_0] 24 (0, 0)) (by (with_reducible repeat first|apply bN|apply bD|apply bA);exact BK119.out) hb);have n2_ := Aside0.mk (blk_below (g := gb120) (o := .cells #[.slice none 0 0] 24 (0, 0)) (by (with_reducible repeat first|apply bN|apply bD|apply bA);exact BK120.out) hb);have n3_ := Aside0.mk (blk_below (g := gb121) (o := .cells #[.int .i64 0, .int .i64 0] 27 (0, 0)) (by (with_reducible repeat first|apply bN|apply bD|apply bA);exact BK121.out) hb);have n4_ := Aside0.mk (below_step (by repeat (first|(with_reducible first|exact HB.out|apply eA|apply eN|apply eD|refine below_set ?_ GE119.out|refine below_set ?_ GE120.out|refine below_set ?_ GE121.out)|exact HB.out)) hb);clear HO0_0;clear BK119;clear BK120;clear BK121;clear HB;have HO0_0 := n0_;have BK119 := n1_;have BK120 := n2_;have BK121 := n3_;have HB := n4_;clear n0_ n1_ n2_ n3_ n4_;(try clear hb);(try clear hb2);(try clear hk);(try clear hi);have hcz21_0 : w20.cell? ⟨gb119, 0, none⟩ = some (.slice A0_0 l0_0.length c0_0) := (blk_cell BK119.out 0).trans rfl;have hfz21_0 := blk_frozen BK119.out 0;have hnb22 := NB120_121.out;have hnc22 := NB121_120.out;have hcz23_0 : w20.cell? ⟨gb120, 0, none⟩ = some (.slice none 0 0) := (blk_cell BK120.out 0).trans rfl;have hfz23_0 := blk_frozen BK120.out 0;have hcz24_0 : w20.cell? ⟨gb121, 0, none⟩ = some (.int .i64 0) := (blk_cell BK121.out 0).trans rfl;have hcz24_1 : w20.cell? ⟨gb121, 1, none⟩ = some (.int .i64 0) := (blk_cell BK121.out 1).trans rfl;have hfz24_0 := blk_frozen BK121.out 0;have hfz24_1 := blk_frozen BK121.out 1))
    refine bodyPost_ret (results_cc rfl _ _ gb120 gb121 24 27 #[.slice A0_0 l0_0.length c0_0] #[.int .i64 0, .int .i64 0] (0, 0) (0, 0) _ _ rfl (by (with_reducible repeat first|apply bN|apply bD|apply bA);refine blk_far ?_ NB120_121.out _;(with_reducible repeat first|apply bN|apply bD|apply bA);refine blk_far ?_ NB120_121.out _;(with_reducible repeat first|apply bN|apply bD|apply bA);refine blk_put (cs := #[.slice none 0 0]) ?_ 0 _ rfl;(with_reducible repeat first|apply bN|apply bD|apply bA);exact BK120.out) Try.underlying24 rfl (by kernel_rfl) rfl (by (with_reducible repeat first|apply bN|apply bD|apply bA);refine blk_put (cs := #[.int .i64 0, .int .i64 0]) ?_ 1 _ rfl;(with_reducible repeat first|apply bN|apply bD|apply bA);refine blk_put (cs := #[.int .i64 0, .int .i64 0]) ?_ 0 _ rfl;(with_reducible repeat first|apply bN|apply bD|apply bA);refine blk_far ?_ NB121_120.out _;(with_reducible repeat first|apply bN|apply bD|apply bA);exact BK121.out) Try.underlying27 rfl (by kernel_rfl)) rfl ?_
    exact ⟨_, by first|rfl|(simp [errW_none, errW_some] <;> rfl)|(simp [*, errW_none, errW_some] <;> rfl), by (with_reducible repeat (first|apply Kd.V_alloc|apply Kd.V_drewN|apply Kd.V_drew));exact Kd.V_mono (Kd.V_far (p := ⟨gb121, 1, none⟩) (Kd.V_far (p := ⟨gb121, 0, none⟩) (Kd.V_far (p := ⟨gb120, 0, none⟩) (Kd.V_mono (Kd.V_mono HO0_0.out (fun k_ hk => (⟨hk, hk.1.2⟩ : _ ∧ k_ ≠ gb120))) (fun k_ hk => (⟨hk, hk.1.2⟩ : _ ∧ k_ ≠ gb121))) (fun _ hk => hk.1.2) (.slice A0_0 l0_0.length c0_0)) (fun _ hk => hk.2) (.int .i64 0)) (fun _ hk => hk.2) (.int .i64 0)) (fun _ hk => hk.1.1.1.1.1), by repeat (first|(with_reducible first|exact HB.out|apply eA|apply eN|apply eD|refine below_set ?_ GE119.out|refine below_set ?_ GE120.out|refine below_set ?_ GE121.out)|exact HB.out)⟩

end Go.Proofs.Ytdnnkhogpobjbaa.PI
