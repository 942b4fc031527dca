/- Printed by a program of this session out of the translation: Lean functions for Go functions, and proofs that the Go functions answer the same. -/
import Derived.Test.YtdnnkhogpobjbaaPI0
import Derived.Test.YtdnnkhogpobjbaaPI1
import Derived.Test.YtdnnkhogpobjbaaPI3
namespace Go.Proofs.Ytdnnkhogpobjbaa.PI
open Go.RowKit Go.Proofs.Ytdnnkhogpobjbaa.Pre Go.Proofs.YtdnnkhogpobjbaaW.PrintWords Go.Proofs.YtdnnkhogpobjbaaW.PrintLast Go.Proofs.YtdnnkhogpobjbaaW.PrintMore
attribute [local go_sem] max2_int min2_int max_two min_two max_three min_three max_four min_four   -- for this text's walks alone
set_option linter.unusedVariables false
set_option linter.unusedSimpArgs false

attribute [local go_sem high] eqA27
/-! ### textpatch_Invert: function 17 -/
def textpatch_Invert.l0 : Nat → Int → List (S47) → Int → Int → List (S47) → Option ((List (S47)) × Int × Int)
  | 0, _, _, _, _, _ => none
  | k + 1, x6, x17, x18, x19, x131000 => if x19 < x18 then (if 0 ≤ x19 then (if x19 < (x17.length : Int) then ((slices_Clone_string_string.f ((rd_T47 x17 x19).f2)).bind fun t133 => ((slices_Clone_string_string.f ((rd_T47 x17 x19).f1)).bind fun t136 => (if x131000.length < 2513169434916 then (textpatch_Invert.l0 k (wrap64 (x6 + (wrap64 ((((rd_T47 x17 x19).f2).length : Int) - (((rd_T47 x17 x19).f1).length : Int))))) x17 x18 (wrap64 (x19 + 1)) (x131000 ++ [(⟨wrap64 (((rd_T47 x17 x19).f0) + x6), t133, t136⟩ : S47)])) else (none)))) else (none)) else (none)) else ((textpatch_Fit.f x131000).bind fun bt142 => (some (bt142.1, bt142.2.1, bt142.2.2)))
def textpatch_Invert.f (k : Nat) (l0_0 : List (S47)) : Option ((List (S47)) × Int × Int) := (textpatch_Validate.f l0_0).bind fun bt127 => (if (!(bt127.1 == 0) || (!(bt127.2 == 0))) = true then (some (([] : List (S47)), bt127.1, bt127.2)) else (textpatch_Invert.l0 k 0 l0_0 (l0_0.length : Int) 0 ([] : List (S47))))
theorem textpatch_Invert.mono_l : ∀ k, (∀ y0 y1 y2 y3 y4, LeO (textpatch_Invert.l0 k y0 y1 y2 y3 y4) (textpatch_Invert.l0 (k + 1) y0 y1 y2 y3 y4))
  | 0 => fun _ _ _ _ _ r h => by simp [textpatch_Invert.l0] at h
  | k + 1 => by
    have ih0 := textpatch_Invert.mono_l k
    · intro y0 y1 y2 y3 y4
      unfold textpatch_Invert.l0
      repeat' first
      | (with_reducible exact ih0 _ _ _ _ _)
      | (with_reducible exact LeO.refl _)
      | (with_reducible exact LeO.none _)
      | (with_reducible refine LeO.ite ?_ ?_)
      | (with_reducible refine LeO.bind ?_ (fun _ => ?_))
      | exact ih0 _ _ _ _ _
      | exact LeO.none _
      | refine LeO.ite ?_ ?_
      | refine LeO.bind ?_ (fun _ => ?_)
theorem textpatch_Invert.mono : ∀ a0 k, LeO (textpatch_Invert.f k a0) (textpatch_Invert.f (k + 1) a0) := by
  intro a0 k
  have ih0 := textpatch_Invert.mono_l k
  unfold textpatch_Invert.f
  repeat' first
      | (with_reducible exact ih0 _ _ _ _ _)
      | (with_reducible exact LeO.refl _)
      | (with_reducible exact LeO.none _)
      | (with_reducible refine LeO.ite ?_ ?_)
      | (with_reducible refine LeO.bind ?_ (fun _ => ?_))
      | exact ih0 _ _ _ _ _
      | exact LeO.none _
      | refine LeO.ite ?_ ?_
      | refine LeO.bind ?_ (fun _ => ?_)
def textpatch_Invert.T9 : Bool × List (List Nat × List Nat) := (true, [([], []), ([0], [0]), ([], []), ([2], [2]), ([], []), ([3, 4], [3, 4]), ([], []), ([6], [6]), ([7], [7]), ([], []), ([9], [9]), ([10, 8], [10]), ([5, 8, 11], [5, 8, 11]), ([12], [12]), ([1, 13, 11], [1, 13]), ([0, 1, 2, 3, 4, 5, 6, 7, 8, 9, 10, 11, 12, 13, 14], []), ([15, 14, 14, 0, 1, 2, 3, 4, 5, 6, 7, 8, 9, 10, 11, 12, 13, 14], [14, 15])])
def textpatch_Invert.B9 : List Nat := [0, 1, 0, 4, 0, 28, 0, 64, 192, 0, 512, 1984, 4092, 8188, 16383, 32767, 65535]
theorem textpatch_Invert.tab9 : rtab .any (opsOf Try.f17 9) = textpatch_Invert.T9 := by kernel_rfl
theorem textpatch_Invert.bits9 : waitsOk textpatch_Invert.T9.2 textpatch_Invert.B9 = true := by kernel_rfl
set_option maxHeartbeats 8000000 in
set_option maxRecDepth 100000 in
theorem textpatch_Invert.calls (k : Nat) (A0_0 : Option Addr) (c0_0 : Nat) (l0_0 : List (S47)) (r1 : List (S47)) (r2 : Int) (r3 : Int) (w : World) (hr0_0 : Kd.C k47 w A0_0 l0_0.length l0_0) (hc0_0 : l0_0.length ≤ c0_0) (h : textpatch_Invert.f k l0_0 = some (r1, r2, r3)) :
    Calls Try.prog 17 #[.agg #[.slice A0_0 l0_0.length c0_0]] w fun e w' => ∃ v0_ : Value, e = .returned (.tuple #[.agg #[v0_], .agg #[.int .i64 r2, .int .i64 r3]]) ∧ Kd.V k47 47 w' w.heap.size (fun k_ => (w.heap.size ≤ k_)) v0_ r1 ∧ Below w.heap.size w w' := by
  have hu24 := Try.underlying24
  have hu27 := Try.underlying27
  have hu47 := Try.underlying47
  have HR0_0 := Aside0.mk hr0_0
  have HC0_0 := Aside0.mk hc0_0
  clear hr0_0 hc0_0
  have HB := Aside0.mk (Below.refl w.heap.size w)
  have H : ((textpatch_Validate.f l0_0).bind fun bt127 => (if (!(bt127.1 == 0) || (!(bt127.2 == 0))) = true then (some (([] : List (S47)), bt127.1, bt127.2)) else (textpatch_Invert.l0 k 0 l0_0 (l0_0.length : Int) 0 ([] : List (S47))))) = some (r1, r2, r3) := h
  clear h
  replace H := Option.bind_eq_some_iff.mp H
  obtain ⟨⟨t127, t128⟩, A20, H⟩ := H
  replace H : (if (!(t127 == 0) || (!(t128 == 0))) = true then (some (([] : List (S47)), t127, t128)) else (textpatch_Invert.l0 k 0 l0_0 (l0_0.length : Int) 0 ([] : List (S47)))) = some (r1, r2, r3) := H
  have A2 := Aside0.mk A20
  clear A20
  by_cases c3 : (!(t127 == 0) || (!(t128 == 0))) = true
  · rw [if_pos c3] at H
    have c3b0 : (!(t127 == 0) || (!(t128 == 0))) = true := c3
    clear c3
    simp only [Option.some.injEq, Prod.mk.injEq] at H
    obtain ⟨rfl, rfl, rfl⟩ := H
    go_enter Try.func17, Try.ntmps17
    try go_wp2_with (first|((with_reducible refine gate_dst (N := 1) rfl ?_);refine box_event ?hg (N := 1) ?hd (cs := #[.slice A0_0 l0_0.length c0_0]) (t := 24) ?hr ?_;(case hd => rfl);(case hg => rfl);(case hr => first|(go_simp;done)|(go_simp;rfl));intro gb124 hg w4 hbox hb;have n0_ := Aside0.mk (below_step (by repeat (first|(with_reducible first|exact HB.out|apply eA|apply eN|apply eD)|exact HB.out)) hb);have n1_ := Aside0.mk (hbox);have n2_ := Aside0.mk ((by rw [hg];exact (below_size (by repeat (first|(with_reducible first|exact HB.out|apply eA|apply eN|apply eD)|exact HB.out))) : w.heap.size ≤ gb124));have n3_ := Aside0.mk ((by rw [hg];exact (below_size (by repeat (first|(with_reducible first|exact HB.out|apply eA|apply eN|apply eD)|exact HB.out))) : w.heap.size ≤ gb124));clear HB;have HB := n0_;have BK124 := n1_;have GW124 := n2_;have GE124 := n3_;clear n0_ n1_ n2_ n3_;clear hb hbox hg)|((with_reducible refine gate_dst (N := 2) rfl ?_);refine box_event ?hg (N := 2) ?hd (cs := #[.slice none 0 0]) (t := 24) ?hr ?_;(case hd => rfl);(case hg => rfl);(case hr => first|(go_simp;done)|(go_simp;rfl));intro gb125 hg w5 hbox hb;have n0_ := Aside0.mk (blk_below (g := gb124) (o := .cells #[.slice A0_0 l0_0.length c0_0] 24 (0, 0)) (by (with_reducible repeat first|apply bN|apply bD|apply bA);exact BK124.out) hb);have n1_ := Aside0.mk (below_step (by repeat (first|(with_reducible first|exact HB.out|apply eA|apply eN|apply eD|refine below_set ?_ GE124.out)|exact HB.out)) hb);have n2_ := Aside0.mk (hbox);have n3_ := Aside0.mk ((by rw [hg];exact (below_size (by repeat (first|(with_reducible first|exact HB.out|apply eA|apply eN|apply eD|refine below_set ?_ GE124.out)|exact HB.out))) : w.heap.size ≤ gb125));have n4_ := Aside0.mk ((by rw [hg];exact (below_size (by repeat (first|(with_reducible first|exact HB.out|apply eA|apply eN|apply eD|refine below_set ?_ GE124.out)|exact HB.out))) : w.heap.size ≤ gb125));have n5_ := Aside0.mk ((by rw [hg];exact Nat.ne_of_lt (blk_lt (g := gb124) (o := .cells #[.slice A0_0 l0_0.length c0_0] 24 (0, 0)) (by (with_reducible repeat first|apply bN|apply bD|apply bA);exact BK124.out)) : gb124 ≠ gb125));have n6_ := Aside0.mk ((by rw [hg];exact Nat.ne_of_gt (blk_lt (g := gb124) (o := .cells #[.slice A0_0 l0_0.length c0_0] 24 (0, 0)) (by (with_reducible repeat first|apply bN|apply bD|apply bA);exact BK124.out)) : gb125 ≠ gb124));clear BK124;clear HB;have BK124 := n0_;have HB := n1_;have BK125 := n2_;have GW125 := n3_;have GE125 := n4_;have NB124_125 := n5_;have NB125_124 := n6_;clear n0_ n1_ n2_ n3_ n4_ n5_ n6_;clear hb hbox hg)|((with_reducible refine gate_dst (N := 3) rfl ?_);refine box_event ?hg (N := 3) ?hd (cs := #[.int .i64 0, .int .i64 0]) (t := 27) ?hr ?_;(case hd => rfl);(case hg => rfl);(case hr => first|(go_simp;done)|(go_simp;rfl));intro gb126 hg w6 hbox hb;have n0_ := Aside0.mk (blk_below (g := gb124) (o := .cells #[.slice A0_0 l0_0.length c0_0] 24 (0, 0)) (by (with_reducible repeat first|apply bN|apply bD|apply bA);exact BK124.out) hb);have n1_ := Aside0.mk (blk_below (g := gb125) (o := .cells #[.slice none 0 0] 24 (0, 0)) (by (with_reducible repeat first|apply bN|apply bD|apply bA);exact BK125.out) hb);have n2_ := Aside0.mk (below_step (by repeat (first|(with_reducible first|exact HB.out|apply eA|apply eN|apply eD|refine below_set ?_ GE124.out|refine below_set ?_ GE125.out)|exact HB.out)) hb);have n3_ := Aside0.mk (hbox);have n4_ := Aside0.mk ((by rw [hg];exact (below_size (by repeat (first|(with_reducible first|exact HB.out|apply eA|apply eN|apply eD|refine below_set ?_ GE124.out|refine below_set ?_ GE125.out)|exact HB.out))) : w.heap.size ≤ gb126));have n5_ := Aside0.mk ((by rw [hg];exact (below_size (by repeat (first|(with_reducible first|exact HB.out|apply eA|apply eN|apply eD|refine below_set ?_ GE124.out|refine below_set ?_ GE125.out)|exact HB.out))) : w.heap.size ≤ gb126));have n6_ := Aside0.mk ((by rw [hg];exact Nat.ne_of_lt (blk_lt (g := gb124) (o := .cells #[.slice A0_0 l0_0.length c0_0] 24 (0, 0)) (by (with_reducible repeat first|apply bN|apply bD|apply bA);exact BK124.out)) : gb124 ≠ gb126));have n7_ := Aside0.mk ((by rw [hg];exact Nat.ne_of_gt (blk_lt (g := gb124) (o := .cells #[.slice A0_0 l0_0.length c0_0] 24 (0, 0)) (by (with_reducible repeat first|apply bN|apply bD|apply bA);exact BK124.out)) : gb126 ≠ gb124));have n8_ := Aside0.mk ((by rw [hg];exact Nat.ne_of_lt (blk_lt (g := gb125) (o := .cells #[.slice none 0 0] 24 (0, 0)) (by (with_reducible repeat first|apply bN|apply bD|apply bA);exact BK125.out)) : gb125 ≠ gb126));have n9_ := Aside0.mk ((by rw [hg];exact Nat.ne_of_gt (blk_lt (g := gb125) (o := .cells #[.slice none 0 0] 24 (0, 0)) (by (with_reducible repeat first|apply bN|apply bD|apply bA);exact BK125.out)) : gb126 ≠ gb125));clear BK124;clear BK125;clear HB;have BK124 := n0_;have BK125 := n1_;have HB := n2_;have BK126 := n3_;have GW126 := n4_;have GE126 := n5_;have NB124_126 := n6_;have NB126_124 := n7_;have NB125_126 := n8_;have NB126_125 := n9_;clear n0_ n1_ n2_ n3_ n4_ n5_ n6_ n7_ n8_ n9_;clear hb hbox hg;have hnb7 := NB124_125.out;have hnc7 := NB125_124.out;have hnb8 := NB124_126.out;have hnc8 := NB126_124.out;have hcz9_0 : w6.cell? ⟨gb124, 0, none⟩ = some (.slice A0_0 l0_0.length c0_0) := (blk_cell BK124.out 0).trans rfl;have hfz9_0 := blk_frozen BK124.out 0)|((with_reducible refine gate_callee (f := 19) rfl ?_);refine goesL_ (some 10) rfl rfl Try.func19 (by kernel_rfl) rfl #[.agg #[.slice A0_0 l0_0.length c0_0]] rfl (by (try simp only [List.map_toArray, List.map_cons, List.map_nil]);first|done|rfl|(simp only [List.length_drop, List.length_take];rfl)) ?_;(with_reducible refine (textpatch_Validate.calls _ _ l0_0 t127 t128 _ ?side1 ?side2 A2.out).mono ?_);(case side1 => repeat (first|exact (Kd.C_below HR0_0.out HB.out)|(with_reducible refine Kd.C_alloc ?_ _)|(with_reducible refine Kd.C_drewN ?_ _)|(with_reducible refine Kd.C_drew ?_)));(case side2 => exact HC0_0.out);rintro e w10 ⟨rfl, hb⟩;refine ⟨_, rfl, ?_⟩;have n0_ := Aside0.mk (blk_below (g := gb124) (o := .cells #[.slice A0_0 l0_0.length c0_0] 24 (0, 0)) (by (with_reducible repeat first|apply bN|apply bD|apply bA);exact BK124.out) hb);have n1_ := Aside0.mk (blk_below (g := gb125) (o := .cells #[.slice none 0 0] 24 (0, 0)) (by (with_reducible repeat first|apply bN|apply bD|apply bA);exact BK125.out) hb);have n2_ := Aside0.mk (blk_below (g := gb126) (o := .cells #[.int .i64 0, .int .i64 0] 27 (0, 0)) (by (with_reducible repeat first|apply bN|apply bD|apply bA);exact BK126.out) hb);have n3_ := Aside0.mk (below_step (by repeat (first|(with_reducible first|exact HB.out|apply eA|apply eN|apply eD|refine below_set ?_ GE124.out|refine below_set ?_ GE125.out|refine below_set ?_ GE126.out)|exact HB.out)) hb);clear BK124;clear BK125;clear BK126;clear HB;have BK124 := n0_;have BK125 := n1_;have BK126 := n2_;have HB := n3_;clear n0_ n1_ n2_ n3_;(try clear hb);(try clear hb2);(try clear hk);(try clear hi))|((with_reducible refine gate_dst (N := 4) rfl ?_);refine box_event ?hg (N := 4) ?hd (cs := #[.int .i64 0, .int .i64 0]) (t := 27) ?hr ?_;(case hd => rfl);(case hg => rfl);(case hr => first|(go_simp;done)|(go_simp;rfl));intro gb129 hg w11 hbox hb;have n0_ := Aside0.mk (blk_below (g := gb124) (o := .cells #[.slice A0_0 l0_0.length c0_0] 24 (0, 0)) (by (with_reducible repeat first|apply bN|apply bD|apply bA);exact BK124.out) hb);have n1_ := Aside0.mk (blk_below (g := gb125) (o := .cells #[.slice none 0 0] 24 (0, 0)) (by (with_reducible repeat first|apply bN|apply bD|apply bA);exact BK125.out) hb);have n2_ := Aside0.mk (blk_below (g := gb126) (o := .cells #[.int .i64 0, .int .i64 0] 27 (0, 0)) (by (with_reducible repeat first|apply bN|apply bD|apply bA);exact BK126.out) hb);have n3_ := Aside0.mk (below_step (by repeat (first|(with_reducible first|exact HB.out|apply eA|apply eN|apply eD|refine below_set ?_ GE124.out|refine below_set ?_ GE125.out|refine below_set ?_ GE126.out)|exact HB.out)) hb);have n4_ := Aside0.mk (hbox);have n5_ := Aside0.mk ((by rw [hg];exact (below_size (by repeat (first|(with_reducible first|exact HB.out|apply eA|apply eN|apply eD|refine below_set ?_ GE124.out|refine below_set ?_ GE125.out|refine below_set ?_ GE126.out)|exact HB.out))) : w.heap.size ≤ gb129));have n6_ := Aside0.mk ((by rw [hg];exact (below_size (by repeat (first|(with_reducible first|exact HB.out|apply eA|apply eN|apply eD|refine below_set ?_ GE124.out|refine below_set ?_ GE125.out|refine below_set ?_ GE126.out)|exact HB.out))) : w.heap.size ≤ gb129));have n7_ := Aside0.mk ((by rw [hg];exact Nat.ne_of_lt (blk_lt (g := gb124) (o := .cells #[.slice A0_0 l0_0.length c0_0] 24 (0, 0)) (by (with_reducible repeat first|apply bN|apply bD|apply bA);exact BK124.out)) : gb124 ≠ gb129));have n8_ := Aside0.mk ((by rw [hg];exact Nat.ne_of_gt (blk_lt (g := gb124) (o := .cells #[.slice A0_0 l0_0.length c0_0] 24 (0, 0)) (by (with_reducible repeat first|apply bN|apply bD|apply bA);exact BK124.out)) : gb129 ≠ gb124));have n9_ := Aside0.mk ((by rw [hg];exact Nat.ne_of_lt (blk_lt (g := gb125) (o := .cells #[.slice none 0 0] 24 (0, 0)) (by (with_reducible repeat first|apply bN|apply bD|apply bA);exact BK125.out)) : gb125 ≠ gb129));have n10_ := Aside0.mk ((by rw [hg];exact Nat.ne_of_gt (blk_lt (g := gb125) (o := .cells #[.slice none 0 0] 24 (0, 0)) (by (with_reducible repeat first|apply bN|apply bD|apply bA);exact BK125.out)) : gb129 ≠ gb125));have n11_ := Aside0.mk ((by rw [hg];exact Nat.ne_of_lt (blk_lt (g := gb126) (o := .cells #[.int .i64 0, .int .i64 0] 27 (0, 0)) (by (with_reducible repeat first|apply bN|apply bD|apply bA);exact BK126.out)) : gb126 ≠ gb129));have n12_ := Aside0.mk ((by rw [hg];exact Nat.ne_of_gt (blk_lt (g := gb126) (o := .cells #[.int .i64 0, .int .i64 0] 27 (0, 0)) (by (with_reducible repeat first|apply bN|apply bD|apply bA);exact BK126.out)) : gb129 ≠ gb126));clear BK124;clear BK125;clear BK126;clear HB;have BK124 := n0_;have BK125 := n1_;have BK126 := n2_;have HB := n3_;have BK129 := n4_;have GW129 := n5_;have GE129 := n6_;have NB124_129 := n7_;have NB129_124 := n8_;have NB125_129 := n9_;have NB129_125 := n10_;have NB126_129 := n11_;have NB129_126 := n12_;clear n0_ n1_ n2_ n3_ n4_ n5_ n6_ n7_ n8_ n9_ n10_ n11_ n12_;clear hb hbox hg;have hnb12 := NB129_124.out;have hnc12 := NB124_129.out;have hnb13 := NB129_125.out;have hnc13 := NB125_129.out;have hnb14 := NB129_126.out;have hnc14 := NB126_129.out;have hcz15_0 : w11.cell? ⟨gb129, 0, none⟩ = some (.int .i64 0) := (blk_cell BK129.out 0).trans rfl;have hcz15_1 : w11.cell? ⟨gb129, 1, none⟩ = some (.int .i64 0) := (blk_cell BK129.out 1).trans rfl;have hfz15_0 := blk_frozen BK129.out 0;have hfz15_1 := blk_frozen BK129.out 1))
    have n0_ : Aside0 (((w11.setCell ⟨gb129, 0, none⟩ (.int .i64 t127)).setCell ⟨gb129, 1, none⟩ (.int .i64 t128)).heap[gb124]? = some (.cells #[.slice A0_0 l0_0.length c0_0] 24 (0, 0))) := ⟨by (with_reducible repeat first|apply bN|apply bD|apply bA);refine blk_far ?_ NB124_129.out _;(with_reducible repeat first|apply bN|apply bD|apply bA);refine blk_far ?_ NB124_129.out _;(with_reducible repeat first|apply bN|apply bD|apply bA);exact BK124.out⟩
    have n1_ : Aside0 (((w11.setCell ⟨gb129, 0, none⟩ (.int .i64 t127)).setCell ⟨gb129, 1, none⟩ (.int .i64 t128)).heap[gb125]? = some (.cells #[.slice none 0 0] 24 (0, 0))) := ⟨by (with_reducible repeat first|apply bN|apply bD|apply bA);refine blk_far ?_ NB125_129.out _;(with_reducible repeat first|apply bN|apply bD|apply bA);refine blk_far ?_ NB125_129.out _;(with_reducible repeat first|apply bN|apply bD|apply bA);exact BK125.out⟩
    have n2_ : Aside0 (((w11.setCell ⟨gb129, 0, none⟩ (.int .i64 t127)).setCell ⟨gb129, 1, none⟩ (.int .i64 t128)).heap[gb126]? = some (.cells #[.int .i64 0, .int .i64 0] 27 (0, 0))) := ⟨by (with_reducible repeat first|apply bN|apply bD|apply bA);refine blk_far ?_ NB126_129.out _;(with_reducible repeat first|apply bN|apply bD|apply bA);refine blk_far ?_ NB126_129.out _;(with_reducible repeat first|apply bN|apply bD|apply bA);exact BK126.out⟩
    have n3_ : Aside0 (((w11.setCell ⟨gb129, 0, none⟩ (.int .i64 t127)).setCell ⟨gb129, 1, none⟩ (.int .i64 t128)).heap[gb129]? = some (.cells #[.int .i64 t127, .int .i64 t128] 27 (0, 0))) := ⟨by (with_reducible repeat first|apply bN|apply bD|apply bA);refine blk_put (cs := #[.int .i64 t127, .int .i64 0]) ?_ 1 _ rfl;(with_reducible repeat first|apply bN|apply bD|apply bA);refine blk_put (cs := #[.int .i64 0, .int .i64 0]) ?_ 0 _ rfl;(with_reducible repeat first|apply bN|apply bD|apply bA);exact BK129.out⟩
    have n4_ : Aside0 (Below w.heap.size w ((w11.setCell ⟨gb129, 0, none⟩ (.int .i64 t127)).setCell ⟨gb129, 1, none⟩ (.int .i64 t128))) := ⟨by repeat (first|(with_reducible first|exact HB.out|apply eA|apply eN|apply eD|refine below_set ?_ GE124.out|refine below_set ?_ GE125.out|refine below_set ?_ GE126.out|refine below_set ?_ GE129.out)|exact HB.out)⟩
    (try clear BK124)
    (try clear BK125)
    (try clear BK126)
    (try clear BK129)
    (try clear HB)
    generalize ((w11.setCell ⟨gb129, 0, none⟩ (.int .i64 t127)).setCell ⟨gb129, 1, none⟩ (.int .i64 t128)) = w16 at n0_ n1_ n2_ n3_ n4_ ⊢
    have BK124 := n0_
    have BK125 := n1_
    have BK126 := n2_
    have BK129 := n3_
    have HB := n4_
    clear n0_ n1_ n2_ n3_ n4_
    have n0_ := Aside0.mk (blk_drew BK124.out)
    have n1_ := Aside0.mk (blk_drew BK125.out)
    have n2_ := Aside0.mk (blk_drew BK126.out)
    have n3_ := Aside0.mk (blk_drew BK129.out)
    have n4_ := Aside0.mk (below_drew1 HB.out)
    clear BK124
    clear BK125
    clear BK126
    clear BK129
    clear HB
    have BK124 := n0_
    have BK125 := n1_
    have BK126 := n2_
    have BK129 := n3_
    have HB := n4_
    clear n0_ n1_ n2_ n3_ n4_
    refine start_ (n := 4) (S := fun w' => w'.cell? ⟨gb129, 0, none⟩ = some (.int .i64 t127) ∧ w'.cell? ⟨gb129, 1, none⟩ = some (.int .i64 t128)) (ds := []) #[false, false, false, false] (by kernel_rfl) rfl rfl ⟨(blk_cell BK129.out 0).trans rfl, (blk_cell BK129.out 1).trans rfl⟩ (fun hHeld => ?_)
    generalize w16.drew = w17 at BK124 BK125 BK126 BK129 HB hHeld ⊢
    refine pure_ (i := 0) (N := some 14) (v := ?_) (a' := ?_) #[true, false, false, false] rfl rfl (by kernel_rfl) (fun _ _ _ h => h) (Or.inl ⟨by rfl, ?_⟩) ?_ ?_
    rotate_left
    · intro w'
      go_simp
      with_reducible rfl
    rotate_left
    · simp only [Act.put, sA, sB, sC, i64_w, i32_w]
      rfl
    refine take_ (i := 1) (N := some 15) (v := ?_) (a' := ?_) #[true, true, false, false] rfl rfl (by kernel_rfl) (fun _ _ _ h => h) (Or.inl ⟨by rfl, ?_⟩) hHeld ?_ ?_
    rotate_left
    · rintro w' ⟨s0, s1⟩
      go_simp
      with_reducible rfl
    rotate_left
    · simp only [Act.put, sA, sB, sC, i64_w, i32_w]
      rfl
    refine one_ (i := 2) (N := none) #[true, true, true, false] rfl rfl (by kernel_rfl) (by decide) (fun K hK => ?_)
    have hs18 : w17.cell? ⟨gb125, 0, none⟩ = some (.slice none 0 0) := (blk_cell BK125.out 0).trans rfl
    have hfs18 := blk_frozen BK125.out 0
    have hns18_0 := NB124_125.out
    have hns18_2 := NB126_125.out
    have hns18_3 := NB129_125.out
    have hms18_0 := NB125_124.out
    have hms18_2 := NB125_126.out
    have hms18_3 := NB125_129.out
    refine skip_ (w1 := ?_) (by rfl) rfl ?_ ?_
    rotate_left
    · go_simp
      rfl
    refine hK.out _ _ ⟨((cell_far (p := ⟨gb125, _, none⟩) NB129_125.out _).trans (hHeld.1)), ((cell_far (p := ⟨gb125, _, none⟩) NB129_125.out _).trans (hHeld.2))⟩ (fun hHeld => ?_)
    clear hK K
    refine one_ (i := 3) (N := none) #[true, true, true, true] rfl rfl (by kernel_rfl) (by decide) (fun K hK => ?_)
    have hs19 : w17.cell? ⟨gb126, 0, none⟩ = some (.int .i64 0) := (blk_cell BK126.out 0).trans rfl
    have hfs19 := blk_frozen BK126.out 0
    have hns19_0 := NB124_126.out
    have hns19_1 := NB125_126.out
    have hns19_3 := NB129_126.out
    have hms19_0 := NB126_124.out
    have hms19_1 := NB126_125.out
    have hms19_3 := NB126_129.out
    have hs20 : w17.cell? ⟨gb126, 1, none⟩ = some (.int .i64 0) := (blk_cell BK126.out 1).trans rfl
    have hfs20 := blk_frozen BK126.out 1
    have hns20_0 := NB124_126.out
    have hns20_1 := NB125_126.out
    have hns20_3 := NB129_126.out
    have hms20_0 := NB126_124.out
    have hms20_1 := NB126_125.out
    have hms20_3 := NB126_129.out
    refine skip_ (w1 := ?_) (by rfl) rfl ?_ ?_
    rotate_left
    · go_simp
      rfl
    refine hK.out _ _ ⟨((cell_far (p := ⟨gb126, _, none⟩) NB129_126.out _).trans (((cell_far (p := ⟨gb126, _, none⟩) NB129_126.out _).trans (hHeld.1)))), ((cell_far (p := ⟨gb126, _, none⟩) NB129_126.out _).trans (((cell_far (p := ⟨gb126, _, none⟩) NB129_126.out _).trans (hHeld.2))))⟩ (fun hHeld => ?_)
    clear hK K
    refine done_ (by kernel_rfl) ?_
    try go_wp2
    refine bodyPost_ret (results_cc rfl _ _ gb125 gb126 24 27 #[.slice none 0 0] #[.int .i64 t127, .int .i64 t128] (0, 0) (0, 0) _ _ rfl (by (with_reducible repeat first|apply bN|apply bD|apply bA);refine blk_far ?_ NB125_126.out _;(with_reducible repeat first|apply bN|apply bD|apply bA);refine blk_far ?_ NB125_126.out _;(with_reducible repeat first|apply bN|apply bD|apply bA);refine blk_put (cs := #[.slice none 0 0]) ?_ 0 _ rfl;(with_reducible repeat first|apply bN|apply bD|apply bA);exact BK125.out) Try.underlying24 rfl (by kernel_rfl) rfl (by (with_reducible repeat first|apply bN|apply bD|apply bA);refine blk_put (cs := #[.int .i64 t127, .int .i64 0]) ?_ 1 _ rfl;(with_reducible repeat first|apply bN|apply bD|apply bA);refine blk_put (cs := #[.int .i64 0, .int .i64 0]) ?_ 0 _ rfl;(with_reducible repeat first|apply bN|apply bD|apply bA);refine blk_far ?_ NB126_125.out _;(with_reducible repeat first|apply bN|apply bD|apply bA);exact BK126.out) Try.underlying27 rfl (by kernel_rfl)) rfl ?_
    exact ⟨_, by first|rfl|(simp [errW_none, errW_some] <;> rfl)|(simp [*, errW_none, errW_some] <;> rfl), Kd.S_V (Kd.S_nil _ _ _ 0 _), by repeat (first|(with_reducible first|exact HB.out|apply eA|apply eN|apply eD|refine below_set ?_ GE124.out|refine below_set ?_ GE125.out|refine below_set ?_ GE126.out|refine below_set ?_ GE129.out)|exact HB.out)⟩
  · rw [if_neg c3] at H
    have c3b0 : (!(t127 == 0) || (!(t128 == 0))) = false := by simpa using c3
    clear c3
    have H' := Aside0.mk H
    clear H
    go_enter Try.func17, Try.ntmps17
    go_wp2_with (first|((with_reducible refine gate_dst (N := 1) rfl ?_);refine box_event ?hg (N := 1) ?hd (cs := #[.slice A0_0 l0_0.length c0_0]) (t := 24) ?hr ?_;(case hd => rfl);(case hg => rfl);(case hr => first|(go_simp;done)|(go_simp;rfl));intro gb124 hg w21 hbox hb;have n0_ := Aside0.mk (below_step (by repeat (first|(with_reducible first|exact HB.out|apply eA|apply eN|apply eD)|exact HB.out)) hb);have n1_ := Aside0.mk (hbox);have n2_ := Aside0.mk ((by rw [hg];exact (below_size (by repeat (first|(with_reducible first|exact HB.out|apply eA|apply eN|apply eD)|exact HB.out))) : w.heap.size ≤ gb124));have n3_ := Aside0.mk ((by rw [hg];exact (below_size (by repeat (first|(with_reducible first|exact HB.out|apply eA|apply eN|apply eD)|exact HB.out))) : w.heap.size ≤ gb124));clear HB;have HB := n0_;have BK124 := n1_;have GW124 := n2_;have GE124 := n3_;clear n0_ n1_ n2_ n3_;clear hb hbox hg)|((with_reducible refine gate_dst (N := 2) rfl ?_);refine box_event ?hg (N := 2) ?hd (cs := #[.slice none 0 0]) (t := 24) ?hr ?_;(case hd => rfl);(case hg => rfl);(case hr => first|(go_simp;done)|(go_simp;rfl));intro gb125 hg w22 hbox hb;have n0_ := Aside0.mk (blk_below (g := gb124) (o := .cells #[.slice A0_0 l0_0.length c0_0] 24 (0, 0)) (by (with_reducible repeat first|apply bN|apply bD|apply bA);exact BK124.out) hb);have n1_ := Aside0.mk (below_step (by repeat (first|(with_reducible first|exact HB.out|apply eA|apply eN|apply eD|refine below_set ?_ GE124.out)|exact HB.out)) hb);have n2_ := Aside0.mk (hbox);have n3_ := Aside0.mk ((by rw [hg];exact (below_size (by repeat (first|(with_reducible first|exact HB.out|apply eA|apply eN|apply eD|refine below_set ?_ GE124.out)|exact HB.out))) : w.heap.size ≤ gb125));have n4_ := Aside0.mk ((by rw [hg];exact (below_size (by repeat (first|(with_reducible first|exact HB.out|apply eA|apply eN|apply eD|refine below_set ?_ GE124.out)|exact HB.out))) : w.heap.size ≤ gb125));have n5_ := Aside0.mk ((by rw [hg];exact Nat.ne_of_lt (blk_lt (g := gb124) (o := .cells #[.slice A0_0 l0_0.length c0_0] 24 (0, 0)) (by (with_reducible repeat first|apply bN|apply bD|apply bA);exact BK124.out)) : gb124 ≠ gb125));have n6_ := Aside0.mk ((by rw [hg];exact Nat.ne_of_gt (blk_lt (g := gb124) (o := .cells #[.slice A0_0 l0_0.length c0_0] 24 (0, 0)) (by (with_reducible repeat first|apply bN|apply bD|apply bA);exact BK124.out)) : gb125 ≠ gb124));clear BK124;clear HB;have BK124 := n0_;have HB := n1_;have BK125 := n2_;have GW125 := n3_;have GE125 := n4_;have NB124_125 := n5_;have NB125_124 := n6_;clear n0_ n1_ n2_ n3_ n4_ n5_ n6_;clear hb hbox hg)|((with_reducible refine gate_dst (N := 3) rfl ?_);refine box_event ?hg (N := 3) ?hd (cs := #[.int .i64 0, .int .i64 0]) (t := 27) ?hr ?_;(case hd => rfl);(case hg => rfl);(case hr => first|(go_simp;done)|(go_simp;rfl));intro gb126 hg w23 hbox hb;have n0_ := Aside0.mk (blk_below (g := gb124) (o := .cells #[.slice A0_0 l0_0.length c0_0] 24 (0, 0)) (by (with_reducible repeat first|apply bN|apply bD|apply bA);exact BK124.out) hb);have n1_ := Aside0.mk (blk_below (g := gb125) (o := .cells #[.slice none 0 0] 24 (0, 0)) (by (with_reducible repeat first|apply bN|apply bD|apply bA);exact BK125.out) hb);have n2_ := Aside0.mk (below_step (by repeat (first|(with_reducible first|exact HB.out|apply eA|apply eN|apply eD|refine below_set ?_ GE124.out|refine below_set ?_ GE125.out)|exact HB.out)) hb);have n3_ := Aside0.mk (hbox);have n4_ := Aside0.mk ((by rw [hg];exact (below_size (by repeat (first|(with_reducible first|exact HB.out|apply eA|apply eN|apply eD|refine below_set ?_ GE124.out|refine below_set ?_ GE125.out)|exact HB.out))) : w.heap.size ≤ gb126));have n5_ := Aside0.mk ((by rw [hg];exact (below_size (by repeat (first|(with_reducible first|exact HB.out|apply eA|apply eN|apply eD|refine below_set ?_ GE124.out|refine below_set ?_ GE125.out)|exact HB.out))) : w.heap.size ≤ gb126));have n6_ := Aside0.mk ((by rw [hg];exact Nat.ne_of_lt (blk_lt (g := gb124) (o := .cells #[.slice A0_0 l0_0.length c0_0] 24 (0, 0)) (by (with_reducible repeat first|apply bN|apply bD|apply bA);exact BK124.out)) : gb124 ≠ gb126));have n7_ := Aside0.mk ((by rw [hg];exact Nat.ne_of_gt (blk_lt (g := gb124) (o := .cells #[.slice A0_0 l0_0.length c0_0] 24 (0, 0)) (by (with_reducible repeat first|apply bN|apply bD|apply bA);exact BK124.out)) : gb126 ≠ gb124));have n8_ := Aside0.mk ((by rw [hg];exact Nat.ne_of_lt (blk_lt (g := gb125) (o := .cells #[.slice none 0 0] 24 (0, 0)) (by (with_reducible repeat first|apply bN|apply bD|apply bA);exact BK125.out)) : gb125 ≠ gb126));have n9_ := Aside0.mk ((by rw [hg];exact Nat.ne_of_gt (blk_lt (g := gb125) (o := .cells #[.slice none 0 0] 24 (0, 0)) (by (with_reducible repeat first|apply bN|apply bD|apply bA);exact BK125.out)) : gb126 ≠ gb125));clear BK124;clear BK125;clear HB;have BK124 := n0_;have BK125 := n1_;have HB := n2_;have BK126 := n3_;have GW126 := n4_;have GE126 := n5_;have NB124_126 := n6_;have NB126_124 := n7_;have NB125_126 := n8_;have NB126_125 := n9_;clear n0_ n1_ n2_ n3_ n4_ n5_ n6_ n7_ n8_ n9_;clear hb hbox hg;have hnb24 := NB124_125.out;have hnc24 := NB125_124.out;have hnb25 := NB124_126.out;have hnc25 := NB126_124.out;have hcz26_0 : w23.cell? ⟨gb124, 0, none⟩ = some (.slice A0_0 l0_0.length c0_0) := (blk_cell BK124.out 0).trans rfl;have hfz26_0 := blk_frozen BK124.out 0)|((with_reducible refine gate_callee (f := 19) rfl ?_);refine goesL_ (some 10) rfl rfl Try.func19 (by kernel_rfl) rfl #[.agg #[.slice A0_0 l0_0.length c0_0]] rfl (by (try simp only [List.map_toArray, List.map_cons, List.map_nil]);first|done|rfl|(simp only [List.length_drop, List.length_take];rfl)) ?_;(with_reducible refine (textpatch_Validate.calls _ _ l0_0 t127 t128 _ ?side1 ?side2 A2.out).mono ?_);(case side1 => repeat (first|exact (Kd.C_below HR0_0.out HB.out)|(with_reducible refine Kd.C_alloc ?_ _)|(with_reducible refine Kd.C_drewN ?_ _)|(with_reducible refine Kd.C_drew ?_)));(case side2 => exact HC0_0.out);rintro e w27 ⟨rfl, hb⟩;refine ⟨_, rfl, ?_⟩;have n0_ := Aside0.mk (blk_below (g := gb124) (o := .cells #[.slice A0_0 l0_0.length c0_0] 24 (0, 0)) (by (with_reducible repeat first|apply bN|apply bD|apply bA);exact BK124.out) hb);have n1_ := Aside0.mk (blk_below (g := gb125) (o := .cells #[.slice none 0 0] 24 (0, 0)) (by (with_reducible repeat first|apply bN|apply bD|apply bA);exact BK125.out) hb);have n2_ := Aside0.mk (blk_below (g := gb126) (o := .cells #[.int .i64 0, .int .i64 0] 27 (0, 0)) (by (with_reducible repeat first|apply bN|apply bD|apply bA);exact BK126.out) hb);have n3_ := Aside0.mk (below_step (by repeat (first|(with_reducible first|exact HB.out|apply eA|apply eN|apply eD|refine below_set ?_ GE124.out|refine below_set ?_ GE125.out|refine below_set ?_ GE126.out)|exact HB.out)) hb);clear BK124;clear BK125;clear BK126;clear HB;have BK124 := n0_;have BK125 := n1_;have BK126 := n2_;have HB := n3_;clear n0_ n1_ n2_ n3_;(try clear hb);(try clear hb2);(try clear hk);(try clear hi))|((with_reducible refine gate_dst (N := 4) rfl ?_);refine box_event ?hg (N := 4) ?hd (cs := #[.int .i64 0, .int .i64 0]) (t := 27) ?hr ?_;(case hd => rfl);(case hg => rfl);(case hr => first|(go_simp;done)|(go_simp;rfl));intro gb129 hg w28 hbox hb;have n0_ := Aside0.mk (blk_below (g := gb124) (o := .cells #[.slice A0_0 l0_0.length c0_0] 24 (0, 0)) (by (with_reducible repeat first|apply bN|apply bD|apply bA);exact BK124.out) hb);have n1_ := Aside0.mk (blk_below (g := gb125) (o := .cells #[.slice none 0 0] 24 (0, 0)) (by (with_reducible repeat first|apply bN|apply bD|apply bA);exact BK125.out) hb);have n2_ := Aside0.mk (blk_below (g := gb126) (o := .cells #[.int .i64 0, .int .i64 0] 27 (0, 0)) (by (with_reducible repeat first|apply bN|apply bD|apply bA);exact BK126.out) hb);have n3_ := Aside0.mk (below_step (by repeat (first|(with_reducible first|exact HB.out|apply eA|apply eN|apply eD|refine below_set ?_ GE124.out|refine below_set ?_ GE125.out|refine below_set ?_ GE126.out)|exact HB.out)) hb);have n4_ := Aside0.mk (hbox);have n5_ := Aside0.mk ((by rw [hg];exact (below_size (by repeat (first|(with_reducible first|exact HB.out|apply eA|apply eN|apply eD|refine below_set ?_ GE124.out|refine below_set ?_ GE125.out|refine below_set ?_ GE126.out)|exact HB.out))) : w.heap.size ≤ gb129));have n6_ := Aside0.mk ((by rw [hg];exact (below_size (by repeat (first|(with_reducible first|exact HB.out|apply eA|apply eN|apply eD|refine below_set ?_ GE124.out|refine below_set ?_ GE125.out|refine below_set ?_ GE126.out)|exact HB.out))) : w.heap.size ≤ gb129));have n7_ := Aside0.mk ((by rw [hg];exact Nat.ne_of_lt (blk_lt (g := gb124) (o := .cells #[.slice A0_0 l0_0.length c0_0] 24 (0, 0)) (by (with_reducible repeat first|apply bN|apply bD|apply bA);exact BK124.out)) : gb124 ≠ gb129));have n8_ := Aside0.mk ((by rw [hg];exact Nat.ne_of_gt (blk_lt (g := gb124) (o := .cells #[.slice A0_0 l0_0.length c0_0] 24 (0, 0)) (by (with_reducible repeat first|apply bN|apply bD|apply bA);exact BK124.out)) : gb129 ≠ gb124));have n9_ := Aside0.mk ((by rw [hg];exact Nat.ne_of_lt (blk_lt (g := gb125) (o := .cells #[.slice none 0 0] 24 (0, 0)) (by (with_reducible repeat first|apply bN|apply bD|apply bA);exact BK125.out)) : gb125 ≠ gb129));have n10_ := Aside0.mk ((by rw [hg];exact Nat.ne_of_gt (blk_lt (g := gb125) (o := .cells #[.slice none 0 0] 24 (0, 0)) (by (with_reducible repeat first|apply bN|apply bD|apply bA);exact BK125.out)) : gb129 ≠ gb125));have n11_ := Aside0.mk ((by rw [hg];exact Nat.ne_of_lt (blk_lt (g := gb126) (o := .cells #[.int .i64 0, .int .i64 0] 27 (0, 0)) (by (with_reducible repeat first|apply bN|apply bD|apply bA);exact BK126.out)) : gb126 ≠ gb129));have n12_ := Aside0.mk ((by rw [hg];exact Nat.ne_of_gt (blk_lt (g := gb126) (o := .cells #[.int .i64 0, .int .i64 0] 27 (0, 0)) (by (with_reducible repeat first|apply bN|apply bD|apply bA);exact BK126.out)) : gb129 ≠ gb126));clear BK124;clear BK125;clear BK126;clear HB;have BK124 := n0_;have BK125 := n1_;have BK126 := n2_;have HB := n3_;have BK129 := n4_;have GW129 := n5_;have GE129 := n6_;have NB124_129 := n7_;have NB129_124 := n8_;have NB125_129 := n9_;have NB129_125 := n10_;have NB126_129 := n11_;have NB129_126 := n12_;clear n0_ n1_ n2_ n3_ n4_ n5_ n6_ n7_ n8_ n9_ n10_ n11_ n12_;clear hb hbox hg;have hnb29 := NB129_124.out;have hnc29 := NB124_129.out;have hnb30 := NB129_125.out;have hnc30 := NB125_129.out;have hnb31 := NB129_126.out;have hnc31 := NB126_129.out;have hcz32_0 : w28.cell? ⟨gb129, 0, none⟩ = some (.int .i64 0) := (blk_cell BK129.out 0).trans rfl;have hcz32_1 : w28.cell? ⟨gb129, 1, none⟩ = some (.int .i64 0) := (blk_cell BK129.out 1).trans rfl;have hfz32_0 := blk_frozen BK129.out 0;have hfz32_1 := blk_frozen BK129.out 1)|((with_reducible refine gate_dst (N := 5) rfl ?_);refine box_event ?hg (N := 5) ?hd (cs := #[.slice none 0 0]) (t := 24) ?hr ?_;(case hd => rfl);(case hg => rfl);(case hr => first|(go_simp;done)|(go_simp;rfl));intro gb130 hg w33 hbox hb;have n0_ := Aside0.mk (blk_below (g := gb124) (o := .cells #[.slice A0_0 l0_0.length c0_0] 24 (0, 0)) (by (with_reducible repeat first|apply bN|apply bD|apply bA);refine blk_far ?_ NB124_129.out _;(with_reducible repeat first|apply bN|apply bD|apply bA);refine blk_far ?_ NB124_129.out _;(with_reducible repeat first|apply bN|apply bD|apply bA);exact BK124.out) hb);have n1_ := Aside0.mk (blk_below (g := gb125) (o := .cells #[.slice none 0 0] 24 (0, 0)) (by (with_reducible repeat first|apply bN|apply bD|apply bA);refine blk_far ?_ NB125_129.out _;(with_reducible repeat first|apply bN|apply bD|apply bA);refine blk_far ?_ NB125_129.out _;(with_reducible repeat first|apply bN|apply bD|apply bA);exact BK125.out) hb);have n2_ := Aside0.mk (blk_below (g := gb126) (o := .cells #[.int .i64 0, .int .i64 0] 27 (0, 0)) (by (with_reducible repeat first|apply bN|apply bD|apply bA);refine blk_far ?_ NB126_129.out _;(with_reducible repeat first|apply bN|apply bD|apply bA);refine blk_far ?_ NB126_129.out _;(with_reducible repeat first|apply bN|apply bD|apply bA);exact BK126.out) hb);have n3_ := Aside0.mk (blk_below (g := gb129) (o := .cells #[.int .i64 t127, .int .i64 t128] 27 (0, 0)) (by (with_reducible repeat first|apply bN|apply bD|apply bA);refine blk_put (cs := #[.int .i64 t127, .int .i64 0]) ?_ 1 _ rfl;(with_reducible repeat first|apply bN|apply bD|apply bA);refine blk_put (cs := #[.int .i64 0, .int .i64 0]) ?_ 0 _ rfl;(with_reducible repeat first|apply bN|apply bD|apply bA);exact BK129.out) hb);have n4_ := Aside0.mk (below_step (by repeat (first|(with_reducible first|exact HB.out|apply eA|apply eN|apply eD|refine below_set ?_ GE124.out|refine below_set ?_ GE125.out|refine below_set ?_ GE126.out|refine below_set ?_ GE129.out)|exact HB.out)) hb);have n5_ := Aside0.mk (hbox);have n6_ := Aside0.mk ((by rw [hg];exact (below_size (by repeat (first|(with_reducible first|exact HB.out|apply eA|apply eN|apply eD|refine below_set ?_ GE124.out|refine below_set ?_ GE125.out|refine below_set ?_ GE126.out|refine below_set ?_ GE129.out)|exact HB.out))) : w.heap.size ≤ gb130));have n7_ := Aside0.mk ((by rw [hg];exact (below_size (by repeat (first|(with_reducible first|exact HB.out|apply eA|apply eN|apply eD|refine below_set ?_ GE124.out|refine below_set ?_ GE125.out|refine below_set ?_ GE126.out|refine below_set ?_ GE129.out)|exact HB.out))) : w.heap.size ≤ gb130));have n8_ := Aside0.mk ((by rw [hg];exact Nat.ne_of_lt (blk_lt (g := gb124) (o := .cells #[.slice A0_0 l0_0.length c0_0] 24 (0, 0)) (by (with_reducible repeat first|apply bN|apply bD|apply bA);refine blk_far ?_ NB124_129.out _;(with_reducible repeat first|apply bN|apply bD|apply bA);refine blk_far ?_ NB124_129.out _;(with_reducible repeat first|apply bN|apply bD|apply bA);exact BK124.out)) : gb124 ≠ gb130));have n9_ := Aside0.mk ((by rw [hg];exact Nat.ne_of_gt (blk_lt (g := gb124) (o := .cells #[.slice A0_0 l0_0.length c0_0] 24 (0, 0)) (by (with_reducible repeat first|apply bN|apply bD|apply bA);refine blk_far ?_ NB124_129.out _;(with_reducible repeat first|apply bN|apply bD|apply bA);refine blk_far ?_ NB124_129.out _;(with_reducible repeat first|apply bN|apply bD|apply bA);exact BK124.out)) : gb130 ≠ gb124));have n10_ := Aside0.mk ((by rw [hg];exact Nat.ne_of_lt (blk_lt (g := gb125) (o := .cells #[.slice none 0 0] 24 (0, 0)) (by (with_reducible repeat first|apply bN|apply bD|apply bA);refine blk_far ?_ NB125_129.out _;(with_reducible repeat first|apply bN|apply bD|apply bA);refine blk_far ?_ NB125_129.out _;(with_reducible repeat first|apply bN|apply bD|apply bA);exact BK125.out)) : gb125 ≠ gb130));have n11_ := Aside0.mk ((by rw [hg];exact Nat.ne_of_gt (blk_lt (g := gb125) (o := .cells #[.slice none 0 0] 24 (0, 0)) (by (with_reducible repeat first|apply bN|apply bD|apply bA);refine blk_far ?_ NB125_129.out _;(with_reducible repeat first|apply bN|apply bD|apply bA);refine blk_far ?_ NB125_129.out _;(with_reducible repeat first|apply bN|apply bD|apply bA);exact BK125.out)) : gb130 ≠ gb125));have n12_ := Aside0.mk ((by rw [hg];exact Nat.ne_of_lt (blk_lt (g := gb126) (o := .cells #[.int .i64 0, .int .i64 0] 27 (0, 0)) (by (with_reducible repeat first|apply bN|apply bD|apply bA);refine blk_far ?_ NB126_129.out _;(with_reducible repeat first|apply bN|apply bD|apply bA);refine blk_far ?_ NB126_129.out _;(with_reducible repeat first|apply bN|apply bD|apply bA);exact BK126.out)) : gb126 ≠ gb130));have n13_ := Aside0.mk ((by rw [hg];exact Nat.ne_of_gt (blk_lt (g := gb126) (o := .cells #[.int .i64 0, .int .i64 0] 27 (0, 0)) (by (with_reducible repeat first|apply bN|apply bD|apply bA);refine blk_far ?_ NB126_129.out _;(with_reducible repeat first|apply bN|apply bD|apply bA);refine blk_far ?_ NB126_129.out _;(with_reducible repeat first|apply bN|apply bD|apply bA);exact BK126.out)) : gb130 ≠ gb126));have n14_ := Aside0.mk ((by rw [hg];exact Nat.ne_of_lt (blk_lt (g := gb129) (o := .cells #[.int .i64 t127, .int .i64 t128] 27 (0, 0)) (by (with_reducible repeat first|apply bN|apply bD|apply bA);refine blk_put (cs := #[.int .i64 t127, .int .i64 0]) ?_ 1 _ rfl;(with_reducible repeat first|apply bN|apply bD|apply bA);refine blk_put (cs := #[.int .i64 0, .int .i64 0]) ?_ 0 _ rfl;(with_reducible repeat first|apply bN|apply bD|apply bA);exact BK129.out)) : gb129 ≠ gb130));have n15_ := Aside0.mk ((by rw [hg];exact Nat.ne_of_gt (blk_lt (g := gb129) (o := .cells #[.int .i64 t127, .int .i64 t128] 27 (0, 0)) (by (with_reducible repeat first|apply bN|apply bD|apply bA);refine blk_put (cs := #[.int .i64 t127, .int .i64 0]) ?_ 1 _ rfl;(with_reducible repeat first|apply bN|apply bD|apply bA);refine blk_put (cs := #[.int .i64 0, .int .i64 0]) ?_ 0 _ rfl;(with_reducible repeat first|apply bN|apply bD|apply bA);exact BK129.out)) : gb130 ≠ gb129));clear BK124;clear BK125;clear BK126;clear BK129;clear HB;have BK124 := n0_;have BK125 := n1_;have BK126 := n2_;have BK129 := n3_;have HB := n4_;have BK130 := n5_;have GW130 := n6_;have GE130 := n7_;have NB124_130 := n8_;have NB130_124 := n9_;have NB125_130 := n10_;have NB130_125 := n11_;have NB126_130 := n12_;have NB130_126 := n13_;have NB129_130 := n14_;have NB130_129 := n15_;clear n0_ n1_ n2_ n3_ n4_ n5_ n6_ n7_ n8_ n9_ n10_ n11_ n12_ n13_ n14_ n15_;clear hb hbox hg;have hnb34 := NB124_130.out;have hnc34 := NB130_124.out;have hcz35_0 : w33.cell? ⟨gb124, 0, none⟩ = some (.slice A0_0 l0_0.length c0_0) := (blk_cell BK124.out 0).trans rfl;have hfz35_0 := blk_frozen BK124.out 0))
    go_loopg [6, 19] k (fun kq v6 v19 w' => ∃ (x6_1 : Int) (x19_1 : Int) (x131000_1 : List (S47)) (u131000 : Value), v6 = .int .i64 x6_1 ∧ v19 = .int .i64 x19_1 ∧ Aside0 (textpatch_Invert.l0 kq x6_1 l0_0 (l0_0.length : Int) x19_1 x131000_1 = some (r1, r2, r3)) ∧ Aside0 (kq ≤ k) ∧ Aside0 (Kd.S k47 47 w' w.heap.size (fun k_ => (w.heap.size ≤ k_)) u131000 x131000_1) ∧ Aside0 (w'.heap[gb124]? = some (.cells #[(.slice A0_0 l0_0.length c0_0)] 24 (0, 0))) ∧ Aside0 (w'.heap[gb125]? = some (.cells #[(.slice none 0 0)] 24 (0, 0))) ∧ Aside0 (w'.heap[gb126]? = some (.cells #[.int .i64 0, .int .i64 0] 27 (0, 0))) ∧ Aside0 (w'.heap[gb129]? = some (.cells #[.int .i64 t127, .int .i64 t128] 27 (0, 0))) ∧ Aside0 (w'.heap[gb130]? = some (.cells #[u131000] 24 (0, 0))) ∧ Aside0 (Below w.heap.size w w'))
    case atStart => exact ⟨(0), (0), (([] : List (S47))), (.slice none 0 0), (by first|rfl|(simp;done)|(simp [*];done)), (by first|rfl|(simp;done)|(simp [*];done)), H', ⟨Nat.le_refl _⟩, ⟨by first|exact Kd.S_nil _ _ _ _ _|exact Kd.N_nil _ _ _ _ _|exact Kd.V_nil _ _ _ _ _|exact Kd.Q_nil _ _ _ _ _|exact Kd.R_nil _ _ _ _ _⟩, ⟨by (with_reducible repeat first|apply bN|apply bD|apply bA);exact BK124.out⟩, ⟨by (with_reducible repeat first|apply bN|apply bD|apply bA);exact BK125.out⟩, ⟨by (with_reducible repeat first|apply bN|apply bD|apply bA);exact BK126.out⟩, ⟨by (with_reducible repeat first|apply bN|apply bD|apply bA);exact BK129.out⟩, ⟨by (with_reducible repeat first|apply bN|apply bD|apply bA);exact BK130.out⟩, ⟨by repeat (first|(with_reducible first|exact HB.out|apply eA|apply eN|apply eD|refine below_set ?_ GE124.out|refine below_set ?_ GE125.out|refine below_set ?_ GE126.out|refine below_set ?_ GE129.out|refine below_set ?_ GE130.out)|exact HB.out)⟩⟩
    case round =>
      clear H'
      try clear c1
      try clear c2
      try clear p2
      try clear c3
      try clear c3b0
      try clear c7
      try clear c8
      try clear c12
      try clear c13
      try clear c14
      try clear c17
      try clear c19
      try clear c24
      try clear c25
      try clear c29
      try clear c30
      try clear c31
      try clear c34
      try clear hcz15_0
      try clear hcz15_1
      try clear hcz26_0
      try clear hcz32_0
      try clear hcz32_1
      try clear hcz35_0
      try clear hcz9_0
      try clear hfz15_0
      try clear hfz15_1
      try clear hfz26_0
      try clear hfz32_0
      try clear hfz32_1
      try clear hfz35_0
      try clear hfz9_0
      obtain ⟨x6_1, x19_1, x131000_1, u131000, rfl, rfl, HA, HK1, HO_131000, BK124, BK125, BK126, BK129, BK130, HB⟩ := hrel
      cases gk with
      | zero => exact absurd HA.out (by simp [textpatch_Invert.l0])
      | succ k1 =>
        have H := HA.out
        clear HA
        simp only [textpatch_Invert.l0] at H
        by_cases c36 : x19_1 < (l0_0.length : Int)
        · rw [if_pos c36] at H
          have c36b0 : decide (x19_1 < (l0_0.length : Int)) = true := decide_eq_true c36
          clear c36
          by_cases c37 : 0 ≤ x19_1
          · rw [if_pos c37] at H
            have c37b0 : decide (0 ≤ x19_1) = true := decide_eq_true c37
            clear c37
            by_cases c38 : x19_1 < (l0_0.length : Int)
            · rw [if_pos c38] at H
              have c38b0 : decide (x19_1 < (l0_0.length : Int)) = true := decide_eq_true c38
              clear c38
              replace H := Option.bind_eq_some_iff.mp H
              obtain ⟨t133, A390, H⟩ := H
              replace H : ((slices_Clone_string_string.f ((rd_T47 l0_0 x19_1).f1)).bind fun t136 => (if x131000_1.length < 2513169434916 then (textpatch_Invert.l0 k1 (wrap64 (x6_1 + (wrap64 ((((rd_T47 l0_0 x19_1).f2).length : Int) - (((rd_T47 l0_0 x19_1).f1).length : Int))))) l0_0 (l0_0.length : Int) (wrap64 (x19_1 + 1)) (x131000_1 ++ [(⟨wrap64 (((rd_T47 l0_0 x19_1).f0) + x6_1), t133, t136⟩ : S47)])) else (none))) = some (r1, r2, r3) := H
              have A39 := Aside0.mk A390
              clear A390
              replace H := Option.bind_eq_some_iff.mp H
              obtain ⟨t136, A400, H⟩ := H
              replace H : (if x131000_1.length < 2513169434916 then (textpatch_Invert.l0 k1 (wrap64 (x6_1 + (wrap64 ((((rd_T47 l0_0 x19_1).f2).length : Int) - (((rd_T47 l0_0 x19_1).f1).length : Int))))) l0_0 (l0_0.length : Int) (wrap64 (x19_1 + 1)) (x131000_1 ++ [(⟨wrap64 (((rd_T47 l0_0 x19_1).f0) + x6_1), t133, t136⟩ : S47)])) else (none)) = some (r1, r2, r3) := H
              have A40 := Aside0.mk A400
              clear A400
              by_cases c41 : x131000_1.length < 2513169434916
              · rw [if_pos c41] at H
                have LMc41 := Aside0.mk c41
                clear c41
                obtain ⟨y139, hy139⟩ : ∃ y_ : List (S47), y_ = (x131000_1 ++ [(⟨wrap64 (((rd_T47 l0_0 x19_1).f0) + x6_1), t133, t136⟩ : S47)]) := ⟨_, rfl⟩
                replace H : (textpatch_Invert.l0 k1 (wrap64 (x6_1 + (wrap64 ((((rd_T47 l0_0 x19_1).f2).length : Int) - (((rd_T47 l0_0 x19_1).f1).length : Int))))) l0_0 (l0_0.length : Int) (wrap64 (x19_1 + 1)) y139) = some (r1, r2, r3) := by first|(rw [hy139];with_reducible exact H)|(have H2_ := (Option.bind_some _ _).symm.trans H;rw [hy139];with_reducible exact H2_)|(have H2_ := (Option.bind_some _ _).symm.trans H;with_reducible exact H2_)|with_reducible exact H|(rw [hy139];exact H)|exact H
                have Ny139 := Aside0.mk hy139
                clear hy139
                have H' := Aside0.mk H
                clear H
                have p131 : 0 ≤ (x19_1 : Int) := of_decide_eq_true (by first|(with_reducible assumption)|assumption)
                have q131 : x19_1 < (l0_0.length : Int) := of_decide_eq_true (by first|(with_reducible assumption)|assumption)
                obtain ⟨ad131, A131_1, c131_1, A131_2, c131_2, e131, hx131_0, hx131_1, hx131_2, hl131_1, hi131_1, hl131_2, hi131_2⟩ := at_T47 HR0_0.out x19_1 p131 q131
                cases e131
                replace hx131_0 := (HB.out.cell (World.block_lt_of_cell? w _ hx131_0)).trans hx131_0
                replace hx131_1 := (HB.out.cell (World.block_lt_of_cell? w _ hx131_1)).trans hx131_1
                replace hx131_2 := (HB.out.cell (World.block_lt_of_cell? w _ hx131_2)).trans hx131_2
                have HR131_1 := Aside0.mk hi131_1
                have HC131_1 := Aside0.mk hl131_1
                clear hi131_1 hl131_1
                have HR131_2 := Aside0.mk hi131_2
                have HC131_2 := Aside0.mk hl131_2
                clear hi131_2 hl131_2
                replace p131 := eq_true p131
                replace q131 := eq_true q131
                try go_wp2_with (first|((with_reducible refine gate_dst (N := 8) rfl ?_);refine box_event ?hg (N := 8) ?hd (cs := #[.int .i64 0, .slice none 0 0, .slice none 0 0]) (t := 47) ?hr ?_;(case hd => rfl);(case hg => rfl);(case hr => first|(go_simp;done)|(go_simp;rfl));intro gb132 hg w42 hbox hb;have n0_ := Aside0.mk (Kd.S_below (Kd.S_elderB (by (with_reducible repeat (first|apply Kd.S_alloc|apply Kd.S_drewN|apply Kd.S_drew));exact HO_131000.out) gb132 (Nat.le_of_eq hg.symm)) hb);have n1_ := Aside0.mk (blk_below (g := gb124) (o := .cells #[.slice (some ad131) l0_0.length c0_0] 24 (0, 0)) (by (with_reducible repeat first|apply bN|apply bD|apply bA);exact BK124.out) hb);have n2_ := Aside0.mk (blk_below (g := gb125) (o := .cells #[.slice none 0 0] 24 (0, 0)) (by (with_reducible repeat first|apply bN|apply bD|apply bA);exact BK125.out) hb);have n3_ := Aside0.mk (blk_below (g := gb126) (o := .cells #[.int .i64 0, .int .i64 0] 27 (0, 0)) (by (with_reducible repeat first|apply bN|apply bD|apply bA);exact BK126.out) hb);have n4_ := Aside0.mk (blk_below (g := gb129) (o := .cells #[.int .i64 t127, .int .i64 t128] 27 (0, 0)) (by (with_reducible repeat first|apply bN|apply bD|apply bA);exact BK129.out) hb);have n5_ := Aside0.mk (blk_below (g := gb130) (o := .cells #[u131000] 24 (0, 0)) (by (with_reducible repeat first|apply bN|apply bD|apply bA);exact BK130.out) hb);have n6_ := Aside0.mk (below_step (by repeat (first|(with_reducible first|exact HB.out|apply eA|apply eN|apply eD|refine below_set ?_ GE124.out|refine below_set ?_ GE125.out|refine below_set ?_ GE126.out|refine below_set ?_ GE129.out|refine below_set ?_ GE130.out)|exact HB.out)) hb);have n7_ := Aside0.mk (hbox);have n8_ := Aside0.mk ((by rw [hg];exact (below_size (by repeat (first|(with_reducible first|exact HB.out|apply eA|apply eN|apply eD|refine below_set ?_ GE124.out|refine below_set ?_ GE125.out|refine below_set ?_ GE126.out|refine below_set ?_ GE129.out|refine below_set ?_ GE130.out)|exact HB.out))) : w.heap.size ≤ gb132));have n9_ := Aside0.mk ((by rw [hg];exact (below_size (by repeat (first|(with_reducible first|exact HB.out|apply eA|apply eN|apply eD|refine below_set ?_ GE124.out|refine below_set ?_ GE125.out|refine below_set ?_ GE126.out|refine below_set ?_ GE129.out|refine below_set ?_ GE130.out)|exact HB.out))) : w.heap.size ≤ gb132));have n10_ := Aside0.mk ((by rw [hg];exact Nat.ne_of_lt (blk_lt (g := gb124) (o := .cells #[.slice (some ad131) l0_0.length c0_0] 24 (0, 0)) (by (with_reducible repeat first|apply bN|apply bD|apply bA);exact BK124.out)) : gb124 ≠ gb132));have n11_ := Aside0.mk ((by rw [hg];exact Nat.ne_of_gt (blk_lt (g := gb124) (o := .cells #[.slice (some ad131) l0_0.length c0_0] 24 (0, 0)) (by (with_reducible repeat first|apply bN|apply bD|apply bA);exact BK124.out)) : gb132 ≠ gb124));have n12_ := Aside0.mk ((by rw [hg];exact Nat.ne_of_lt (blk_lt (g := gb125) (o := .cells #[.slice none 0 0] 24 (0, 0)) (by (with_reducible repeat first|apply bN|apply bD|apply bA);exact BK125.out)) : gb125 ≠ gb132));have n13_ := Aside0.mk ((by rw [hg];exact Nat.ne_of_gt (blk_lt (g := gb125) (o := .cells #[.slice none 0 0] 24 (0, 0)) (by (with_reducible repeat first|apply bN|apply bD|apply bA);exact BK125.out)) : gb132 ≠ gb125));have n14_ := Aside0.mk ((by rw [hg];exact Nat.ne_of_lt (blk_lt (g := gb126) (o := .cells #[.int .i64 0, .int .i64 0] 27 (0, 0)) (by (with_reducible repeat first|apply bN|apply bD|apply bA);exact BK126.out)) : gb126 ≠ gb132));have n15_ := Aside0.mk ((by rw [hg];exact Nat.ne_of_gt (blk_lt (g := gb126) (o := .cells #[.int .i64 0, .int .i64 0] 27 (0, 0)) (by (with_reducible repeat first|apply bN|apply bD|apply bA);exact BK126.out)) : gb132 ≠ gb126));have n16_ := Aside0.mk ((by rw [hg];exact Nat.ne_of_lt (blk_lt (g := gb129) (o := .cells #[.int .i64 t127, .int .i64 t128] 27 (0, 0)) (by (with_reducible repeat first|apply bN|apply bD|apply bA);exact BK129.out)) : gb129 ≠ gb132));have n17_ := Aside0.mk ((by rw [hg];exact Nat.ne_of_gt (blk_lt (g := gb129) (o := .cells #[.int .i64 t127, .int .i64 t128] 27 (0, 0)) (by (with_reducible repeat first|apply bN|apply bD|apply bA);exact BK129.out)) : gb132 ≠ gb129));have n18_ := Aside0.mk ((by rw [hg];exact Nat.ne_of_lt (blk_lt (g := gb130) (o := .cells #[u131000] 24 (0, 0)) (by (with_reducible repeat first|apply bN|apply bD|apply bA);exact BK130.out)) : gb130 ≠ gb132));have n19_ := Aside0.mk ((by rw [hg];exact Nat.ne_of_gt (blk_lt (g := gb130) (o := .cells #[u131000] 24 (0, 0)) (by (with_reducible repeat first|apply bN|apply bD|apply bA);exact BK130.out)) : gb132 ≠ gb130));clear HO_131000;clear BK124;clear BK125;clear BK126;clear BK129;clear BK130;clear HB;have HO_131000 := n0_;have BK124 := n1_;have BK125 := n2_;have BK126 := n3_;have BK129 := n4_;have BK130 := n5_;have HB := n6_;have BK132 := n7_;have GW132 := n8_;have GE132 := n9_;have NB124_132 := n10_;have NB132_124 := n11_;have NB125_132 := n12_;have NB132_125 := n13_;have NB126_132 := n14_;have NB132_126 := n15_;have NB129_132 := n16_;have NB132_129 := n17_;have NB130_132 := n18_;have NB132_130 := n19_;clear n0_ n1_ n2_ n3_ n4_ n5_ n6_ n7_ n8_ n9_ n10_ n11_ n12_ n13_ n14_ n15_ n16_ n17_ n18_ n19_;clear hb hbox hg;have hnb43 := NB132_124.out;have hnc43 := NB124_132.out;have hnb44 := NB132_125.out;have hnc44 := NB125_132.out;have hnb45 := NB132_126.out;have hnc45 := NB126_132.out;have hnb46 := NB132_129.out;have hnc46 := NB129_132.out;have hnb47 := NB132_130.out;have hnc47 := NB130_132.out;have hcz48_0 : w42.cell? ⟨gb132, 0, none⟩ = some (.int .i64 0) := (blk_cell BK132.out 0).trans rfl;have hcz48_1 : w42.cell? ⟨gb132, 1, none⟩ = some (.slice none 0 0) := (blk_cell BK132.out 1).trans rfl;have hcz48_2 : w42.cell? ⟨gb132, 2, none⟩ = some (.slice none 0 0) := (blk_cell BK132.out 2).trans rfl;have hfz48_0 := blk_frozen BK132.out 0;have hfz48_1 := blk_frozen BK132.out 1;have hfz48_2 := blk_frozen BK132.out 2))
                have n0_ : Aside0 (Kd.S k47 47 (((w42.setCell ⟨gb132, 0, none⟩ (.int .i64 ((rd_T47 l0_0 x19_1).f0))).setCell ⟨gb132, 1, none⟩ (.slice A131_1 ((rd_T47 l0_0 x19_1).f1).length c131_1)).setCell ⟨gb132, 2, none⟩ (.slice A131_2 ((rd_T47 l0_0 x19_1).f2).length c131_2)) w.heap.size (fun k_ => (w.heap.size ≤ k_) ∧ k_ ≠ gb132) u131000 x131000_1) := ⟨by (with_reducible repeat (first|apply Kd.S_alloc|apply Kd.S_drewN|apply Kd.S_drew));exact Kd.S_mono (Kd.S_far (p := ⟨gb132, 2, none⟩) (Kd.S_far (p := ⟨gb132, 1, none⟩) (Kd.S_far (p := ⟨gb132, 0, none⟩) (Kd.S_mono HO_131000.out (fun k_ hk => (⟨hk, hk.2⟩ : _ ∧ k_ ≠ gb132))) (fun _ hk => hk.2) (.int .i64 ((rd_T47 l0_0 x19_1).f0))) (fun _ hk => hk.2) (.slice A131_1 ((rd_T47 l0_0 x19_1).f1).length c131_1)) (fun _ hk => hk.2) (.slice A131_2 ((rd_T47 l0_0 x19_1).f2).length c131_2)) (fun _ hk => ⟨hk.1.1, hk.1.2⟩)⟩
                have n1_ : Aside0 ((((w42.setCell ⟨gb132, 0, none⟩ (.int .i64 ((rd_T47 l0_0 x19_1).f0))).setCell ⟨gb132, 1, none⟩ (.slice A131_1 ((rd_T47 l0_0 x19_1).f1).length c131_1)).setCell ⟨gb132, 2, none⟩ (.slice A131_2 ((rd_T47 l0_0 x19_1).f2).length c131_2)).heap[gb124]? = some (.cells #[.slice (some ad131) l0_0.length c0_0] 24 (0, 0))) := ⟨by (with_reducible repeat first|apply bN|apply bD|apply bA);refine blk_far ?_ NB124_132.out _;(with_reducible repeat first|apply bN|apply bD|apply bA);refine blk_far ?_ NB124_132.out _;(with_reducible repeat first|apply bN|apply bD|apply bA);refine blk_far ?_ NB124_132.out _;(with_reducible repeat first|apply bN|apply bD|apply bA);exact BK124.out⟩
                have n2_ : Aside0 ((((w42.setCell ⟨gb132, 0, none⟩ (.int .i64 ((rd_T47 l0_0 x19_1).f0))).setCell ⟨gb132, 1, none⟩ (.slice A131_1 ((rd_T47 l0_0 x19_1).f1).length c131_1)).setCell ⟨gb132, 2, none⟩ (.slice A131_2 ((rd_T47 l0_0 x19_1).f2).length c131_2)).heap[gb125]? = some (.cells #[.slice none 0 0] 24 (0, 0))) := ⟨by (with_reducible repeat first|apply bN|apply bD|apply bA);refine blk_far ?_ NB125_132.out _;(with_reducible repeat first|apply bN|apply bD|apply bA);refine blk_far ?_ NB125_132.out _;(with_reducible repeat first|apply bN|apply bD|apply bA);refine blk_far ?_ NB125_132.out _;(with_reducible repeat first|apply bN|apply bD|apply bA);exact BK125.out⟩
                have n3_ : Aside0 ((((w42.setCell ⟨gb132, 0, none⟩ (.int .i64 ((rd_T47 l0_0 x19_1).f0))).setCell ⟨gb132, 1, none⟩ (.slice A131_1 ((rd_T47 l0_0 x19_1).f1).length c131_1)).setCell ⟨gb132, 2, none⟩ (.slice A131_2 ((rd_T47 l0_0 x19_1).f2).length c131_2)).heap[gb126]? = some (.cells #[.int .i64 0, .int .i64 0] 27 (0, 0))) := ⟨by (with_reducible repeat first|apply bN|apply bD|apply bA);refine blk_far ?_ NB126_132.out _;(with_reducible repeat first|apply bN|apply bD|apply bA);refine blk_far ?_ NB126_132.out _;(with_reducible repeat first|apply bN|apply bD|apply bA);refine blk_far ?_ NB126_132.out _;(with_reducible repeat first|apply bN|apply bD|apply bA);exact BK126.out⟩
                have n4_ : Aside0 ((((w42.setCell ⟨gb132, 0, none⟩ (.int .i64 ((rd_T47 l0_0 x19_1).f0))).setCell ⟨gb132, 1, none⟩ (.slice A131_1 ((rd_T47 l0_0 x19_1).f1).length c131_1)).setCell ⟨gb132, 2, none⟩ (.slice A131_2 ((rd_T47 l0_0 x19_1).f2).length c131_2)).heap[gb129]? = some (.cells #[.int .i64 t127, .int .i64 t128] 27 (0, 0))) := ⟨by (with_reducible repeat first|apply bN|apply bD|apply bA);refine blk_far ?_ NB129_132.out _;(with_reducible repeat first|apply bN|apply bD|apply bA);refine blk_far ?_ NB129_132.out _;(with_reducible repeat first|apply bN|apply bD|apply bA);refine blk_far ?_ NB129_132.out _;(with_reducible repeat first|apply bN|apply bD|apply bA);exact BK129.out⟩
                have n5_ : Aside0 ((((w42.setCell ⟨gb132, 0, none⟩ (.int .i64 ((rd_T47 l0_0 x19_1).f0))).setCell ⟨gb132, 1, none⟩ (.slice A131_1 ((rd_T47 l0_0 x19_1).f1).length c131_1)).setCell ⟨gb132, 2, none⟩ (.slice A131_2 ((rd_T47 l0_0 x19_1).f2).length c131_2)).heap[gb130]? = some (.cells #[u131000] 24 (0, 0))) := ⟨by (with_reducible repeat first|apply bN|apply bD|apply bA);refine blk_far ?_ NB130_132.out _;(with_reducible repeat first|apply bN|apply bD|apply bA);refine blk_far ?_ NB130_132.out _;(with_reducible repeat first|apply bN|apply bD|apply bA);refine blk_far ?_ NB130_132.out _;(with_reducible repeat first|apply bN|apply bD|apply bA);exact BK130.out⟩
                have n6_ : Aside0 ((((w42.setCell ⟨gb132, 0, none⟩ (.int .i64 ((rd_T47 l0_0 x19_1).f0))).setCell ⟨gb132, 1, none⟩ (.slice A131_1 ((rd_T47 l0_0 x19_1).f1).length c131_1)).setCell ⟨gb132, 2, none⟩ (.slice A131_2 ((rd_T47 l0_0 x19_1).f2).length c131_2)).heap[gb132]? = some (.cells #[.int .i64 ((rd_T47 l0_0 x19_1).f0), .slice A131_1 ((rd_T47 l0_0 x19_1).f1).length c131_1, .slice A131_2 ((rd_T47 l0_0 x19_1).f2).length c131_2] 47 (0, 0))) := ⟨by (with_reducible repeat first|apply bN|apply bD|apply bA);refine blk_put (cs := #[.int .i64 ((rd_T47 l0_0 x19_1).f0), .slice A131_1 ((rd_T47 l0_0 x19_1).f1).length c131_1, .slice none 0 0]) ?_ 2 _ rfl;(with_reducible repeat first|apply bN|apply bD|apply bA);refine blk_put (cs := #[.int .i64 ((rd_T47 l0_0 x19_1).f0), .slice none 0 0, .slice none 0 0]) ?_ 1 _ rfl;(with_reducible repeat first|apply bN|apply bD|apply bA);refine blk_put (cs := #[.int .i64 0, .slice none 0 0, .slice none 0 0]) ?_ 0 _ rfl;(with_reducible repeat first|apply bN|apply bD|apply bA);exact BK132.out⟩
                have n7_ : Aside0 (Below w.heap.size w (((w42.setCell ⟨gb132, 0, none⟩ (.int .i64 ((rd_T47 l0_0 x19_1).f0))).setCell ⟨gb132, 1, none⟩ (.slice A131_1 ((rd_T47 l0_0 x19_1).f1).length c131_1)).setCell ⟨gb132, 2, none⟩ (.slice A131_2 ((rd_T47 l0_0 x19_1).f2).length c131_2))) := ⟨by repeat (first|(with_reducible first|exact HB.out|apply eA|apply eN|apply eD|refine below_set ?_ GE124.out|refine below_set ?_ GE125.out|refine below_set ?_ GE126.out|refine below_set ?_ GE129.out|refine below_set ?_ GE130.out|refine below_set ?_ GE132.out)|exact HB.out)⟩
                (try clear HO_131000)
                (try clear BK124)
                (try clear BK125)
                (try clear BK126)
                (try clear BK129)
                (try clear BK130)
                (try clear BK132)
                (try clear HB)
                generalize (((w42.setCell ⟨gb132, 0, none⟩ (.int .i64 ((rd_T47 l0_0 x19_1).f0))).setCell ⟨gb132, 1, none⟩ (.slice A131_1 ((rd_T47 l0_0 x19_1).f1).length c131_1)).setCell ⟨gb132, 2, none⟩ (.slice A131_2 ((rd_T47 l0_0 x19_1).f2).length c131_2)) = w49 at n0_ n1_ n2_ n3_ n4_ n5_ n6_ n7_ ⊢
                have HO_131000 := n0_
                have BK124 := n1_
                have BK125 := n2_
                have BK126 := n3_
                have BK129 := n4_
                have BK130 := n5_
                have BK132 := n6_
                have HB := n7_
                clear n0_ n1_ n2_ n3_ n4_ n5_ n6_ n7_
                have n0_ := Aside0.mk (Kd.S_drew HO_131000.out)
                have n1_ := Aside0.mk (blk_drew BK124.out)
                have n2_ := Aside0.mk (blk_drew BK125.out)
                have n3_ := Aside0.mk (blk_drew BK126.out)
                have n4_ := Aside0.mk (blk_drew BK129.out)
                have n5_ := Aside0.mk (blk_drew BK130.out)
                have n6_ := Aside0.mk (blk_drew BK132.out)
                have n7_ := Aside0.mk (below_drew1 HB.out)
                clear HO_131000
                clear BK124
                clear BK125
                clear BK126
                clear BK129
                clear BK130
                clear BK132
                clear HB
                have HO_131000 := n0_
                have BK124 := n1_
                have BK125 := n2_
                have BK126 := n3_
                have BK129 := n4_
                have BK130 := n5_
                have BK132 := n6_
                have HB := n7_
                clear n0_ n1_ n2_ n3_ n4_ n5_ n6_ n7_
                refine start_ (n := 17) (S := fun w' => w'.cell? ⟨gb130, 0, none⟩ = some (u131000) ∧ w'.cell? ⟨gb132, 0, none⟩ = some (.int .i64 ((rd_T47 l0_0 x19_1).f0)) ∧ w'.cell? ⟨gb132, 1, none⟩ = some (.slice A131_1 ((rd_T47 l0_0 x19_1).f1).length c131_1) ∧ w'.cell? ⟨gb132, 2, none⟩ = some (.slice A131_2 ((rd_T47 l0_0 x19_1).f2).length c131_2)) (ds := [16]) #[false, false, false, false, false, false, false, false, false, false, false, false, false, false, false, false, false] (by kernel_rfl) rfl rfl ⟨(blk_cell BK130.out 0).trans rfl, (blk_cell BK132.out 0).trans rfl, (blk_cell BK132.out 1).trans rfl, (blk_cell BK132.out 2).trans rfl⟩ (fun hHeld => ?_);refine with_tabW textpatch_Invert.tab9 textpatch_Invert.bits9 (fun HT_ HW_ => ?_)
                generalize w49.drew = w50 at HO_131000 BK124 BK125 BK126 BK129 BK130 BK132 HB hHeld ⊢
                refine pure_ (i := 0) (N := some 23) (v := ?_) (a' := ?_) #[true, false, false, false, false, false, false, false, false, false, false, false, false, false, false, false, false] rfl rfl (any_of HT_.out (by kernel_rfl)) (fun _ _ _ h => h) (Or.inl ⟨by rfl, ?_⟩) ?_ ?_
                rotate_left
                · intro w'
                  go_simp
                  with_reducible rfl
                rotate_left
                · simp only [Act.put, sA, sB, sC, i64_w, i32_w]
                  rfl
                refine pure_ (i := 2) (N := some 25) (v := ?_) (a' := ?_) #[true, false, true, false, false, false, false, false, false, false, false, false, false, false, false, false, false] rfl rfl (any_of HT_.out (by kernel_rfl)) (fun _ _ _ h => h) (Or.inl ⟨by rfl, ?_⟩) ?_ ?_
                rotate_left
                · intro w'
                  go_simp
                  with_reducible rfl
                rotate_left
                · simp only [Act.put, sA, sB, sC, i64_w, i32_w]
                  rfl
                refine pure_ (i := 4) (N := some 27) (v := ?_) (a' := ?_) #[true, false, true, false, true, false, false, false, false, false, false, false, false, false, false, false, false] rfl rfl (any_of HT_.out (by kernel_rfl)) (fun _ _ _ h => h) (Or.inl ⟨by rfl, ?_⟩) ?_ ?_
                rotate_left
                · intro w'
                  go_simp
                  with_reducible rfl
                rotate_left
                · simp only [Act.put, sA, sB, sC, i64_w, i32_w]
                  rfl
                refine pure_ (i := 6) (N := some 29) (v := ?_) (a' := ?_) #[true, false, true, false, true, false, true, false, false, false, false, false, false, false, false, false, false] rfl rfl (any_of HT_.out (by kernel_rfl)) (fun _ _ _ h => h) (Or.inl ⟨by rfl, ?_⟩) ?_ ?_
                rotate_left
                · intro w'
                  go_simp
                  with_reducible rfl
                rotate_left
                · simp only [Act.put, sA, sB, sC, i64_w, i32_w]
                  rfl
                refine pure_ (i := 9) (N := some 32) (v := ?_) (a' := ?_) #[true, false, true, false, true, false, true, false, false, true, false, false, false, false, false, false, false] rfl rfl (any_of HT_.out (by kernel_rfl)) (fun _ _ _ h => h) (Or.inl ⟨by rfl, ?_⟩) ?_ ?_
                rotate_left
                · intro w'
                  go_simp
                  with_reducible rfl
                rotate_left
                · simp only [Act.put, sA, sB, sC, i64_w, i32_w]
                  rfl
                refine take_ (i := 1) (N := some 24) (v := ?_) (a' := ?_) #[true, true, true, false, true, false, true, false, false, true, false, false, false, false, false, false, false] rfl rfl (take_ofW HT_.out HW_.out (by kernel_rfl)) (fun _ _ _ h => h) (Or.inl ⟨by rfl, ?_⟩) hHeld ?_ ?_
                rotate_left
                · rintro w' ⟨s0, s1, s2, s3⟩
                  go_simp
                  with_reducible rfl
                rotate_left
                · simp only [Act.put, sA, sB, sC, i64_w, i32_w]
                  rfl
                refine take_ (i := 3) (N := some 26) (v := ?_) (a' := ?_) #[true, true, true, true, true, false, true, false, false, true, false, false, false, false, false, false, false] rfl rfl (take_ofW HT_.out HW_.out (by kernel_rfl)) (fun _ _ _ h => h) (Or.inl ⟨by rfl, ?_⟩) hHeld ?_ ?_
                rotate_left
                · rintro w' ⟨s0, s1, s2, s3⟩
                  go_simp
                  with_reducible rfl
                rotate_left
                · simp only [Act.put, sA, sB, sC, i64_w, i32_w]
                  rfl
                refine pure_ (i := 5) (N := some 28) (v := ?_) (a' := ?_) #[true, true, true, true, true, true, true, false, false, true, false, false, false, false, false, false, false] rfl rfl (any_of HT_.out (by kernel_rfl)) (fun _ _ _ h => h) (Or.inl ⟨by rfl, ?_⟩) ?_ ?_
                rotate_left
                · intro w'
                  go_simp
                  with_reducible rfl
                rotate_left
                · simp only [Act.put, sA, sB, sC, i64_w, i32_w]
                  rfl
                refine take_ (i := 7) (N := some 30) (v := ?_) (a' := ?_) #[true, true, true, true, true, true, true, true, false, true, false, false, false, false, false, false, false] rfl rfl (take_ofW HT_.out HW_.out (by kernel_rfl)) (fun _ _ _ h => h) (Or.inl ⟨by rfl, ?_⟩) hHeld ?_ ?_
                rotate_left
                · rintro w' ⟨s0, s1, s2, s3⟩
                  go_simp
                  with_reducible rfl
                rotate_left
                · simp only [Act.put, sA, sB, sC, i64_w, i32_w]
                  rfl
                refine take_ (i := 10) (N := some 33) (v := ?_) (a' := ?_) #[true, true, true, true, true, true, true, true, false, true, true, false, false, false, false, false, false] rfl rfl (take_ofW HT_.out HW_.out (by kernel_rfl)) (fun _ _ _ h => h) (Or.inl ⟨by rfl, ?_⟩) hHeld ?_ ?_
                rotate_left
                · rintro w' ⟨s0, s1, s2, s3⟩
                  go_simp
                  with_reducible rfl
                rotate_left
                · simp only [Act.put, sA, sB, sC, i64_w, i32_w]
                  rfl
                refine one_ (i := 8) (N := some 31) #[true, true, true, true, true, true, true, true, true, true, true, false, false, false, false, false, false] rfl rfl (one_of HT_.out (by kernel_rfl)) (by decide) (fun K hK => ?_)
                refine goes_ Try.func39 (by kernel_rfl) rfl #[.slice A131_2 ((rd_T47 l0_0 x19_1).f2).length c131_2] (by rfl) rfl rfl (by (try simp only [List.map_toArray, List.map_cons, List.map_nil]);first|done|rfl|(simp only [List.length_drop, List.length_take];rfl)) ?_
                with_reducible refine (slices_Clone_string_string.calls _ _ ((rd_T47 l0_0 x19_1).f2) t133 _ ?side1 ?side2 A39.out).mono ?_
                (case side1 => repeat (first|exact (Kd.C_below HR131_2.out HB.out)|(with_reducible refine Kd.C_alloc ?_ _)|(with_reducible refine Kd.C_drewN ?_ _)|(with_reducible refine Kd.C_drew ?_)))
                (case side2 => exact HC131_2.out)
                rintro e w51 ⟨v134, rfl, ho0, hb⟩
                refine ⟨_, rfl, ?_⟩
                have n0_ := Aside0.mk (Kd.S_elder' (by (with_reducible repeat (first|apply Kd.S_alloc|apply Kd.S_drewN|apply Kd.S_drew));exact HO_131000.out) (Kd.R_base ho0) hb)
                have n1_ := Aside0.mk (Kd.R_lower (Kd.R_newM (M := fun k_ => (w.heap.size ≤ k_)) ho0 (below_size (by repeat (first|(with_reducible first|exact HB.out|apply eA|apply eN|apply eD|refine below_set ?_ GE124.out|refine below_set ?_ GE125.out|refine below_set ?_ GE126.out|refine below_set ?_ GE129.out|refine below_set ?_ GE130.out|refine below_set ?_ GE132.out)|exact HB.out))) (fun k_ h_ => h_)) (below_size (by repeat (first|(with_reducible first|exact HB.out|apply eA|apply eN|apply eD|refine below_set ?_ GE124.out|refine below_set ?_ GE125.out|refine below_set ?_ GE126.out|refine below_set ?_ GE129.out|refine below_set ?_ GE130.out|refine below_set ?_ GE132.out)|exact HB.out))))
                have n2_ := Aside0.mk (blk_below (g := gb124) (o := .cells #[.slice (some ad131) l0_0.length c0_0] 24 (0, 0)) (by (with_reducible repeat first|apply bN|apply bD|apply bA);exact BK124.out) hb)
                have n3_ := Aside0.mk (blk_below (g := gb125) (o := .cells #[.slice none 0 0] 24 (0, 0)) (by (with_reducible repeat first|apply bN|apply bD|apply bA);exact BK125.out) hb)
                have n4_ := Aside0.mk (blk_below (g := gb126) (o := .cells #[.int .i64 0, .int .i64 0] 27 (0, 0)) (by (with_reducible repeat first|apply bN|apply bD|apply bA);exact BK126.out) hb)
                have n5_ := Aside0.mk (blk_below (g := gb129) (o := .cells #[.int .i64 t127, .int .i64 t128] 27 (0, 0)) (by (with_reducible repeat first|apply bN|apply bD|apply bA);exact BK129.out) hb)
                have n6_ := Aside0.mk (blk_below (g := gb130) (o := .cells #[u131000] 24 (0, 0)) (by (with_reducible repeat first|apply bN|apply bD|apply bA);exact BK130.out) hb)
                have n7_ := Aside0.mk (blk_below (g := gb132) (o := .cells #[.int .i64 ((rd_T47 l0_0 x19_1).f0), .slice A131_1 ((rd_T47 l0_0 x19_1).f1).length c131_1, .slice A131_2 ((rd_T47 l0_0 x19_1).f2).length c131_2] 47 (0, 0)) (by (with_reducible repeat first|apply bN|apply bD|apply bA);exact BK132.out) hb)
                have n8_ := Aside0.mk (below_step (by repeat (first|(with_reducible first|exact HB.out|apply eA|apply eN|apply eD|refine below_set ?_ GE124.out|refine below_set ?_ GE125.out|refine below_set ?_ GE126.out|refine below_set ?_ GE129.out|refine below_set ?_ GE130.out|refine below_set ?_ GE132.out)|exact HB.out)) hb)
                clear HO_131000
                clear BK124
                clear BK125
                clear BK126
                clear BK129
                clear BK130
                clear BK132
                clear HB
                have HO_131000 := n0_
                have HO135 := n1_
                have BK124 := n2_
                have BK125 := n3_
                have BK126 := n4_
                have BK129 := n5_
                have BK130 := n6_
                have BK132 := n7_
                have HB := n8_
                clear n0_ n1_ n2_ n3_ n4_ n5_ n6_ n7_ n8_
                (try clear hb)
                (try clear hb2)
                (try clear hk)
                (try clear hi)
                (try clear ho0)
                refine hK.out _ _ ⟨(blk_cell BK130.out 0).trans rfl, (blk_cell BK132.out 0).trans rfl, (blk_cell BK132.out 1).trans rfl, (blk_cell BK132.out 2).trans rfl⟩ (fun hHeld => ?_)
                clear hK K
                refine norm_ (a' := ?_) ?_ ?_
                rotate_left
                · show Act.put _ (some 31) _ = _
                  simp only [Act.put, sA, sB, sC, i64_w, i32_w]
                  rfl
                refine one_ (i := 11) (N := some 34) #[true, true, true, true, true, true, true, true, true, true, true, true, false, false, false, false, false] rfl rfl (one_of HT_.out (by kernel_rfl)) (by decide) (fun K hK => ?_)
                refine goes_ Try.func39 (by kernel_rfl) rfl #[.slice A131_1 ((rd_T47 l0_0 x19_1).f1).length c131_1] (by rfl) rfl rfl (by (try simp only [List.map_toArray, List.map_cons, List.map_nil]);first|done|rfl|(simp only [List.length_drop, List.length_take];rfl)) ?_
                with_reducible refine (slices_Clone_string_string.calls _ _ ((rd_T47 l0_0 x19_1).f1) t136 _ ?side1 ?side2 A40.out).mono ?_
                (case side1 => repeat (first|exact (Kd.C_below HR131_1.out HB.out)|(with_reducible refine Kd.C_alloc ?_ _)|(with_reducible refine Kd.C_drewN ?_ _)|(with_reducible refine Kd.C_drew ?_)))
                (case side2 => exact HC131_1.out)
                rintro e w52 ⟨v137, rfl, ho0, hb⟩
                refine ⟨_, rfl, ?_⟩
                have n0_ := Aside0.mk (Kd.S_elder' (by (with_reducible repeat (first|apply Kd.S_alloc|apply Kd.S_drewN|apply Kd.S_drew));exact HO_131000.out) (Kd.R_base ho0) hb)
                have n1_ := Aside0.mk (Kd.R_elder' (by (with_reducible repeat first|apply rA|apply rN|apply rD);exact HO135.out) (Kd.R_base ho0) hb)
                have n2_ := Aside0.mk (Kd.R_lower (Kd.R_new' (Kd.R_newM (M := fun k_ => (w.heap.size ≤ k_)) ho0 (below_size (by repeat (first|(with_reducible first|exact HB.out|apply eA|apply eN|apply eD|refine below_set ?_ GE124.out|refine below_set ?_ GE125.out|refine below_set ?_ GE126.out|refine below_set ?_ GE129.out|refine below_set ?_ GE130.out|refine below_set ?_ GE132.out)|exact HB.out))) (fun k_ h_ => h_)) (Kd.R_lt (by (with_reducible repeat first|apply rA|apply rN|apply rD);exact HO135.out))) (below_size (by repeat (first|(with_reducible first|exact HB.out|apply eA|apply eN|apply eD|refine below_set ?_ GE124.out|refine below_set ?_ GE125.out|refine below_set ?_ GE126.out|refine below_set ?_ GE129.out|refine below_set ?_ GE130.out|refine below_set ?_ GE132.out)|exact HB.out))))
                have n3_ := Aside0.mk (blk_below (g := gb124) (o := .cells #[.slice (some ad131) l0_0.length c0_0] 24 (0, 0)) (by (with_reducible repeat first|apply bN|apply bD|apply bA);exact BK124.out) hb)
                have n4_ := Aside0.mk (blk_below (g := gb125) (o := .cells #[.slice none 0 0] 24 (0, 0)) (by (with_reducible repeat first|apply bN|apply bD|apply bA);exact BK125.out) hb)
                have n5_ := Aside0.mk (blk_below (g := gb126) (o := .cells #[.int .i64 0, .int .i64 0] 27 (0, 0)) (by (with_reducible repeat first|apply bN|apply bD|apply bA);exact BK126.out) hb)
                have n6_ := Aside0.mk (blk_below (g := gb129) (o := .cells #[.int .i64 t127, .int .i64 t128] 27 (0, 0)) (by (with_reducible repeat first|apply bN|apply bD|apply bA);exact BK129.out) hb)
                have n7_ := Aside0.mk (blk_below (g := gb130) (o := .cells #[u131000] 24 (0, 0)) (by (with_reducible repeat first|apply bN|apply bD|apply bA);exact BK130.out) hb)
                have n8_ := Aside0.mk (blk_below (g := gb132) (o := .cells #[.int .i64 ((rd_T47 l0_0 x19_1).f0), .slice A131_1 ((rd_T47 l0_0 x19_1).f1).length c131_1, .slice A131_2 ((rd_T47 l0_0 x19_1).f2).length c131_2] 47 (0, 0)) (by (with_reducible repeat first|apply bN|apply bD|apply bA);exact BK132.out) hb)
                have n9_ := Aside0.mk (below_step (by repeat (first|(with_reducible first|exact HB.out|apply eA|apply eN|apply eD|refine below_set ?_ GE124.out|refine below_set ?_ GE125.out|refine below_set ?_ GE126.out|refine below_set ?_ GE129.out|refine below_set ?_ GE130.out|refine below_set ?_ GE132.out)|exact HB.out)) hb)
                clear HO_131000
                clear HO135
                clear BK124
                clear BK125
                clear BK126
                clear BK129
                clear BK130
                clear BK132
                clear HB
                have HO_131000 := n0_
                have HO135 := n1_
                have HO138 := n2_
                have BK124 := n3_
                have BK125 := n4_
                have BK126 := n5_
                have BK129 := n6_
                have BK130 := n7_
                have BK132 := n8_
                have HB := n9_
                clear n0_ n1_ n2_ n3_ n4_ n5_ n6_ n7_ n8_ n9_
                (try clear hb)
                (try clear hb2)
                (try clear hk)
                (try clear hi)
                (try clear ho0)
                obtain ⟨Ao53, co53, eo53⟩ := Kd.R_slice HO138.out
                (first|subst eo53|(injection eo53 with f1_ f2_ f3_;have f4_ := f1_.symm;have f5_ := f3_.symm;clear f1_ f2_ f3_;subst f4_;subst f5_))
                obtain ⟨Ao54, co54, eo54⟩ := Kd.R_slice HO135.out
                (first|subst eo54|(injection eo54 with f1_ f2_ f3_;have f4_ := f1_.symm;have f5_ := f3_.symm;clear f1_ f2_ f3_;subst f4_;subst f5_))
                refine hK.out _ _ ⟨(blk_cell BK130.out 0).trans rfl, (blk_cell BK132.out 0).trans rfl, (blk_cell BK132.out 1).trans rfl, (blk_cell BK132.out 2).trans rfl⟩ (fun hHeld => ?_)
                clear hK K
                refine norm_ (a' := ?_) ?_ ?_
                rotate_left
                · show Act.put _ (some 34) _ = _
                  simp only [Act.put, sA, sB, sC, i64_w, i32_w]
                  rfl
                refine pure_ (i := 12) (N := some 35) (v := ?_) (a' := ?_) #[true, true, true, true, true, true, true, true, true, true, true, true, true, false, false, false, false] rfl rfl (any_of HT_.out (by kernel_rfl)) (fun _ _ _ h => h) (Or.inl ⟨by rfl, ?_⟩) ?_ ?_
                rotate_left
                · intro w'
                  go_simp
                  with_reducible rfl
                rotate_left
                · simp only [Act.put, sA, sB, sC, i64_w, i32_w]
                  rfl
                refine one_ (i := 13) (N := some 36) #[true, true, true, true, true, true, true, true, true, true, true, true, true, true, false, false, false] rfl rfl (one_of HT_.out (by kernel_rfl)) (by decide) (fun K hK => ?_)
                refine value_ (w1 := ?_) (v := ?_) (by rfl) rfl ?_ ?_
                rotate_left 2
                · go_simp
                  constructor
                  · rfl
                  · rfl
                refine hK.out _ _ ⟨(blk_cell (blk_alloc BK130.out _) 0).trans rfl, (blk_cell (blk_alloc BK132.out _) 0).trans rfl, (blk_cell (blk_alloc BK132.out _) 1).trans rfl, (blk_cell (blk_alloc BK132.out _) 2).trans rfl⟩ (fun hHeld => ?_)
                clear hK K
                refine norm_ (a' := ?_) ?_ ?_
                rotate_left
                · show Act.put _ (some 36) _ = _
                  simp only [Act.put, sA, sB, sC, i64_w, i32_w]
                  rfl
                refine one_ (i := 14) (N := some 37) #[true, true, true, true, true, true, true, true, true, true, true, true, true, true, true, false, false] rfl rfl (one_of HT_.out (by kernel_rfl)) (by decide) (fun K hK => ?_)
                refine Kd.S_append_step k47 (w0 := w) w.heap.size (by rfl) (.tmp 24) (.tmp 36) 22 47 (.agg #[(.int .i64 0), (.slice none 0 0), (.slice none 0 0)]) 56 rfl Try.underlying22 info47 rfl (by decide) (by omega) u131000 x131000_1 (⟨wrap64 (((rd_T47 l0_0 x19_1).f0) + x6_1), t133, t136⟩ : S47) [.int .i64 (wrap64 (((rd_T47 l0_0 x19_1).f0) + x6_1)), .slice Ao54 t133.length co54, .slice Ao53 t136.length co53] (fun k_ => (w.heap.size ≤ k_) ∧ k_ ≠ gb132) (fun k_ => some k_ = (.slice Ao54 t133.length co54 : Value).ownBlock ∨ some k_ = (.slice Ao53 t136.length co53 : Value).ownBlock) rfl rfl ?aP (fun k_ hk_ => hk_.elim (fun h_ => ((Kd.R_mono (ok' := fun k_ => ((fun k_ => (w.heap.size ≤ k_) ∧ k_ ≠ gb132)) k_ ∧ some k_ ≠ (u131000 : Value).ownBlock) (Kd.R_types (Kd.R_apart' (HO135.out) (Kd.S_typed HO_131000.out) (by decide)) BK132.out (by decide)) (fun k_ hk => ⟨⟨hk.1.1.1.1, hk.2⟩, hk.1.2⟩))).1 k_ h_.symm) (fun h_ => ((Kd.R_mono (ok' := fun k_ => ((fun k_ => (w.heap.size ≤ k_) ∧ k_ ≠ gb132)) k_ ∧ some k_ ≠ (u131000 : Value).ownBlock) (Kd.R_types (Kd.R_apart' (HO138.out) (Kd.S_typed HO_131000.out) (by decide)) BK132.out (by decide)) (fun k_ hk => ⟨⟨hk.1.1.1.1, hk.2⟩, hk.1.2⟩))).1 k_ h_.symm)) ?aF ?aO ?aB ?aS ?aL ?_
                (case aP => exact k47_mkM _ _ _ (⟨wrap64 (((rd_T47 l0_0 x19_1).f0) + x6_1), t133, t136⟩ : S47) (Kd.R_mono (Kd.R_tight rfl (Kd.R_mono (ok' := fun k_ => ((fun k_ => (w.heap.size ≤ k_) ∧ k_ ≠ gb132)) k_ ∧ some k_ ≠ (u131000 : Value).ownBlock) (Kd.R_types (Kd.R_apart' (HO135.out) (Kd.S_typed HO_131000.out) (by decide)) BK132.out (by decide)) (fun k_ hk => ⟨⟨hk.1.1.1.1, hk.2⟩, hk.1.2⟩))) (fun _ h_ => Or.inl h_)) (Kd.R_mono (Kd.R_tight rfl (Kd.R_mono (ok' := fun k_ => ((fun k_ => (w.heap.size ≤ k_) ∧ k_ ≠ gb132)) k_ ∧ some k_ ≠ (u131000 : Value).ownBlock) (Kd.R_types (Kd.R_apart' (HO138.out) (Kd.S_typed HO_131000.out) (by decide)) BK132.out (by decide)) (fun k_ hk => ⟨⟨hk.1.1.1.1, hk.2⟩, hk.1.2⟩))) (fun _ h_ => Or.inr (h_))))
                (case aB => exact (by repeat (first|(with_reducible first|exact HB.out|apply eA|apply eN|apply eD|refine below_set ?_ GE124.out|refine below_set ?_ GE125.out|refine below_set ?_ GE126.out|refine below_set ?_ GE129.out|refine below_set ?_ GE130.out|refine below_set ?_ GE132.out)|exact HB.out)))
                (case aF => exact (fun k_ hk => ⟨(Nat.le_trans (below_size (by repeat (first|(with_reducible first|exact HB.out|apply eA|apply eN|apply eD|refine below_set ?_ GE124.out|refine below_set ?_ GE125.out|refine below_set ?_ GE126.out|refine below_set ?_ GE129.out|refine below_set ?_ GE130.out|refine below_set ?_ GE132.out)|exact HB.out))) hk), Kd.freshB (g := gb132) (o := .cells #[.int .i64 ((rd_T47 l0_0 x19_1).f0), .slice A131_1 ((rd_T47 l0_0 x19_1).f1).length c131_1, .slice A131_2 ((rd_T47 l0_0 x19_1).f2).length c131_2] 47 (0, 0)) (by (with_reducible repeat first|apply bN|apply bD|apply bA);exact BK132.out) k_ hk⟩))
                (case aO => exact (by (with_reducible repeat (first|apply Kd.S_alloc|apply Kd.S_drewN|apply Kd.S_drew));exact Kd.S_mono HO_131000.out (fun k_ hk => ⟨⟨hk.1.1.1, hk.1.1.2⟩, fun e_ => e_.elim (fun h_ => hk.1.2 h_) (fun h_ => hk.2 h_)⟩)))
                (case aS => exact (below_size (by repeat (first|(with_reducible first|exact HB.out|apply eA|apply eN|apply eD|refine below_set ?_ GE124.out|refine below_set ?_ GE125.out|refine below_set ?_ GE126.out|refine below_set ?_ GE129.out|refine below_set ?_ GE130.out|refine below_set ?_ GE132.out)|exact HB.out))))
                (case aL => have := LMc41.out;omega)
                intro v140 w55 ho hb hg hat
                rw [← Ny139.out] at ho
                have n0_ := Aside0.mk (blk_grown (g := gb124) (o := .cells #[.slice (some ad131) l0_0.length c0_0] 24 (0, 0)) (by (with_reducible repeat first|apply bN|apply bD|apply bA);exact BK124.out) hg (Kd.S_ne HO_131000.out BK124.out (by decide)))
                have n1_ := Aside0.mk (blk_grown (g := gb125) (o := .cells #[.slice none 0 0] 24 (0, 0)) (by (with_reducible repeat first|apply bN|apply bD|apply bA);exact BK125.out) hg (Kd.S_ne HO_131000.out BK125.out (by decide)))
                have n2_ := Aside0.mk (blk_grown (g := gb126) (o := .cells #[.int .i64 0, .int .i64 0] 27 (0, 0)) (by (with_reducible repeat first|apply bN|apply bD|apply bA);exact BK126.out) hg (Kd.S_ne HO_131000.out BK126.out (by decide)))
                have n3_ := Aside0.mk (blk_grown (g := gb129) (o := .cells #[.int .i64 t127, .int .i64 t128] 27 (0, 0)) (by (with_reducible repeat first|apply bN|apply bD|apply bA);exact BK129.out) hg (Kd.S_ne HO_131000.out BK129.out (by decide)))
                have n4_ := Aside0.mk (blk_grown (g := gb130) (o := .cells #[u131000] 24 (0, 0)) (by (with_reducible repeat first|apply bN|apply bD|apply bA);exact BK130.out) hg (Kd.S_ne HO_131000.out BK130.out (by decide)))
                have n5_ := Aside0.mk (blk_grown (g := gb132) (o := .cells #[.int .i64 ((rd_T47 l0_0 x19_1).f0), .slice A131_1 ((rd_T47 l0_0 x19_1).f1).length c131_1, .slice A131_2 ((rd_T47 l0_0 x19_1).f2).length c131_2] 47 (0, 0)) (by (with_reducible repeat first|apply bN|apply bD|apply bA);exact BK132.out) hg (Kd.S_away HO_131000.out (fun _ hk => hk.1.1.2)))
                have n6_ := Aside0.mk (hb)
                have n7_ := Aside0.mk (ho)
                clear BK124
                clear BK125
                clear BK126
                clear BK129
                clear BK130
                clear BK132
                clear HB
                clear HO_131000
                clear HO135
                clear HO138
                have BK124 := n0_
                have BK125 := n1_
                have BK126 := n2_
                have BK129 := n3_
                have BK130 := n4_
                have BK132 := n5_
                have HB := n6_
                have HO141 := n7_
                clear n0_ n1_ n2_ n3_ n4_ n5_ n6_ n7_
                clear ho hb hg hat
                obtain ⟨Ao56, co56, eo56⟩ := Kd.S_slice HO141.out
                (first|subst eo56|(injection eo56 with f1_ f2_ f3_;have f4_ := f1_.symm;have f5_ := f3_.symm;clear f1_ f2_ f3_;subst f4_;subst f5_))
                refine hK.out _ _ ⟨(blk_cell BK130.out 0).trans rfl, (blk_cell BK132.out 0).trans rfl, (blk_cell BK132.out 1).trans rfl, (blk_cell BK132.out 2).trans rfl⟩ (fun hHeld => ?_)
                clear hK K
                refine norm_ (a' := ?_) ?_ ?_
                rotate_left
                · show Act.put _ (some 37) _ = _
                  simp only [Act.put, sA, sB, sC, i64_w, i32_w]
                  rfl
                refine pure_ (i := 15) (N := some 38) (v := ?_) (a' := ?_) #[true, true, true, true, true, true, true, true, true, true, true, true, true, true, true, true, false] rfl rfl (any_of HT_.out (by kernel_rfl)) (fun _ _ _ h => h) (Or.inl ⟨by rfl, ?_⟩) ?_ ?_
                rotate_left
                · intro w'
                  go_simp
                  with_reducible rfl
                rotate_left
                · simp only [Act.put, sA, sB, sC, i64_w, i32_w]
                  rfl
                refine last_ (i := 16) (N := none) #[true, true, true, true, true, true, true, true, true, true, true, true, true, true, true, true, true] rfl rfl (one_of HT_.out (by kernel_rfl)) (by decide) (fun K hK => ?_)
                have hs57 : w55.cell? ⟨gb130, 0, none⟩ = some (u131000) := (blk_cell BK130.out 0).trans rfl
                have hfs57 := blk_frozen BK130.out 0
                have hns57_0 := NB124_130.out
                have hns57_1 := NB125_130.out
                have hns57_2 := NB126_130.out
                have hns57_3 := NB129_130.out
                have hns57_5 := NB132_130.out
                have hms57_0 := NB130_124.out
                have hms57_1 := NB130_125.out
                have hms57_2 := NB130_126.out
                have hms57_3 := NB130_129.out
                have hms57_5 := NB130_132.out
                refine skip_ (w1 := ?_) (by rfl) rfl ?_ ?_
                rotate_left
                · go_simp
                  rfl
                refine hK.out _ _ ?_
                clear hK K
                refine done_ (done_of HT_.out (by kernel_rfl)) ?_
                have hcz58_0 : w55.cell? ⟨gb132, 0, none⟩ = some (.int .i64 ((rd_T47 l0_0 x19_1).f0)) := (blk_cell BK132.out 0).trans rfl
                have hcz58_1 : w55.cell? ⟨gb132, 1, none⟩ = some (.slice A131_1 ((rd_T47 l0_0 x19_1).f1).length c131_1) := (blk_cell BK132.out 1).trans rfl
                have hcz58_2 : w55.cell? ⟨gb132, 2, none⟩ = some (.slice A131_2 ((rd_T47 l0_0 x19_1).f2).length c131_2) := (blk_cell BK132.out 2).trans rfl
                have hfz58_0 := blk_frozen BK132.out 0
                have hfz58_1 := blk_frozen BK132.out 1
                have hfz58_2 := blk_frozen BK132.out 2
                try go_wp2
                go_roundg k1
                case measure => have := HK1.out;omega
                case rel => exact ⟨(wrap64 (x6_1 + (wrap64 ((((rd_T47 l0_0 x19_1).f2).length : Int) - (((rd_T47 l0_0 x19_1).f1).length : Int))))), (wrap64 (x19_1 + 1)), (y139), (.slice Ao56 y139.length co56), (by first|rfl|(simp;done)|(simp [*];done)), (by first|rfl|(simp;done)|(simp [*];done)), H', ⟨by have := HK1.out;omega⟩, ⟨by (with_reducible repeat (first|apply Kd.S_alloc|apply Kd.S_drewN|apply Kd.S_drew));exact Kd.S_mono (Kd.S_far (p := ⟨gb130, 0, none⟩) (Kd.S_types HO141.out BK130.out (by decide)) (fun _ hk => hk.2) (.slice Ao56 y139.length co56)) (fun _ hk => hk.1.1)⟩, ⟨by (with_reducible repeat first|apply bN|apply bD|apply bA);refine blk_far ?_ NB124_130.out _;(with_reducible repeat first|apply bN|apply bD|apply bA);exact BK124.out⟩, ⟨by (with_reducible repeat first|apply bN|apply bD|apply bA);refine blk_far ?_ NB125_130.out _;(with_reducible repeat first|apply bN|apply bD|apply bA);exact BK125.out⟩, ⟨by (with_reducible repeat first|apply bN|apply bD|apply bA);refine blk_far ?_ NB126_130.out _;(with_reducible repeat first|apply bN|apply bD|apply bA);exact BK126.out⟩, ⟨by (with_reducible repeat first|apply bN|apply bD|apply bA);refine blk_far ?_ NB129_130.out _;(with_reducible repeat first|apply bN|apply bD|apply bA);exact BK129.out⟩, ⟨by (with_reducible repeat first|apply bN|apply bD|apply bA);refine blk_put (cs := #[u131000]) ?_ 0 _ rfl;(with_reducible repeat first|apply bN|apply bD|apply bA);exact BK130.out⟩, ⟨by repeat (first|(with_reducible first|exact HB.out|apply eA|apply eN|apply eD|refine below_set ?_ GE124.out|refine below_set ?_ GE125.out|refine below_set ?_ GE126.out|refine below_set ?_ GE129.out|refine below_set ?_ GE130.out|refine below_set ?_ GE132.out)|exact HB.out)⟩⟩
              · rw [if_neg c41] at H
                exact absurd H (by simp)
            · rw [if_neg c38] at H
              exact absurd H (by simp)
          · rw [if_neg c37] at H
            exact absurd H (by simp)
        · rw [if_neg c36] at H
          have c36b0 : decide (x19_1 < (l0_0.length : Int)) = false := decide_eq_false c36
          clear c36
          replace H := Option.bind_eq_some_iff.mp H
          obtain ⟨⟨t142, t145, t146⟩, A590, H⟩ := H
          replace H : (some (t142, t145, t146)) = some (r1, r2, r3) := H
          have A59 := Aside0.mk A590
          clear A590
          simp only [Option.some.injEq, Prod.mk.injEq] at H
          obtain ⟨rfl, rfl, rfl⟩ := H
          have hnb60 := NB130_124.out
          have hnc60 := NB124_130.out
          have hnb61 := NB130_125.out
          have hnc61 := NB125_130.out
          have hnb62 := NB130_126.out
          have hnc62 := NB126_130.out
          have hnb63 := NB130_129.out
          have hnc63 := NB129_130.out
          have hcz64_0 : wr.cell? ⟨gb130, 0, none⟩ = some (u131000) := (blk_cell BK130.out 0).trans rfl
          have hfz64_0 := blk_frozen BK130.out 0
          obtain ⟨Ao65, co65, eo65⟩ := Kd.S_slice HO_131000.out
          subst eo65
          go_wp2_with (first|((with_reducible refine gate_callee (f := 40) rfl ?_);refine goesL_ (some 50) rfl rfl Try.func40 (by kernel_rfl) rfl #[.agg #[.slice Ao65 x131000_1.length co65]] rfl (by (try simp only [List.map_toArray, List.map_cons, List.map_nil]);first|done|rfl|(simp only [List.length_drop, List.length_take];rfl)) ?_;(with_reducible refine (textpatch_Fit.calls (fun k_ => ((((((w.heap.size ≤ k_) ∧ k_ ≠ gb124) ∧ k_ ≠ gb125) ∧ k_ ≠ gb126) ∧ k_ ≠ gb129) ∧ k_ ≠ gb130)) _ _ x131000_1 t142 t145 t146 _ ?side1 A59.out).mono ?_);(case side1 => exact Kd.S_V (Kd.S_types (Kd.S_types (Kd.S_types (Kd.S_types (Kd.S_types (HO_131000.out) BK124.out (by decide)) BK125.out (by decide)) BK126.out (by decide)) BK129.out (by decide)) BK130.out (by decide)));rintro e w66 ⟨v143, rfl, ho0, hb⟩;refine ⟨_, rfl, ?_⟩;have n0_ := Aside0.mk (Kd.S_below (by (with_reducible repeat (first|apply Kd.S_alloc|apply Kd.S_drewN|apply Kd.S_drew));exact HO_131000.out) hb);have n1_ := Aside0.mk (Kd.V_lower (Kd.V_mono (ok' := fun k_ => (w.heap.size ≤ k_) ∧ k_ ≠ gb124 ∧ k_ ≠ gb125 ∧ k_ ≠ gb126 ∧ k_ ≠ gb129 ∧ k_ ≠ gb130) ho0 (fun k_ hk_ => ⟨Or.elim hk_ (fun hs_ => hs_.1.1.1.1.1) (fun hn_ => (Nat.le_trans (below_size (by repeat (first|(with_reducible first|exact HB.out|apply eA|apply eN|apply eD|refine below_set ?_ GE124.out|refine below_set ?_ GE125.out|refine below_set ?_ GE126.out|refine below_set ?_ GE129.out|refine below_set ?_ GE130.out)|exact HB.out))) hn_)), Or.elim hk_ (fun hs_ => hs_.1.1.1.1.2) (fun hn_ => (Kd.freshB (g := gb124) (o := .cells #[.slice A0_0 l0_0.length c0_0] 24 (0, 0)) (by (with_reducible repeat first|apply bN|apply bD|apply bA);exact BK124.out) k_ hn_)), Or.elim hk_ (fun hs_ => hs_.1.1.1.2) (fun hn_ => (Kd.freshB (g := gb125) (o := .cells #[.slice none 0 0] 24 (0, 0)) (by (with_reducible repeat first|apply bN|apply bD|apply bA);exact BK125.out) k_ hn_)), Or.elim hk_ (fun hs_ => hs_.1.1.2) (fun hn_ => (Kd.freshB (g := gb126) (o := .cells #[.int .i64 0, .int .i64 0] 27 (0, 0)) (by (with_reducible repeat first|apply bN|apply bD|apply bA);exact BK126.out) k_ hn_)), Or.elim hk_ (fun hs_ => hs_.1.2) (fun hn_ => (Kd.freshB (g := gb129) (o := .cells #[.int .i64 t127, .int .i64 t128] 27 (0, 0)) (by (with_reducible repeat first|apply bN|apply bD|apply bA);exact BK129.out) k_ hn_)), Or.elim hk_ (fun hs_ => hs_.2) (fun hn_ => (Kd.freshB (g := gb130) (o := .cells #[.slice Ao65 x131000_1.length co65] 24 (0, 0)) (by (with_reducible repeat first|apply bN|apply bD|apply bA);exact BK130.out) k_ hn_))⟩)) (below_size (by repeat (first|(with_reducible first|exact HB.out|apply eA|apply eN|apply eD|refine below_set ?_ GE124.out|refine below_set ?_ GE125.out|refine below_set ?_ GE126.out|refine below_set ?_ GE129.out|refine below_set ?_ GE130.out)|exact HB.out))));have n2_ := Aside0.mk (blk_below (g := gb124) (o := .cells #[.slice A0_0 l0_0.length c0_0] 24 (0, 0)) (by (with_reducible repeat first|apply bN|apply bD|apply bA);exact BK124.out) hb);have n3_ := Aside0.mk (blk_below (g := gb125) (o := .cells #[.slice none 0 0] 24 (0, 0)) (by (with_reducible repeat first|apply bN|apply bD|apply bA);exact BK125.out) hb);have n4_ := Aside0.mk (blk_below (g := gb126) (o := .cells #[.int .i64 0, .int .i64 0] 27 (0, 0)) (by (with_reducible repeat first|apply bN|apply bD|apply bA);exact BK126.out) hb);have n5_ := Aside0.mk (blk_below (g := gb129) (o := .cells #[.int .i64 t127, .int .i64 t128] 27 (0, 0)) (by (with_reducible repeat first|apply bN|apply bD|apply bA);exact BK129.out) hb);have n6_ := Aside0.mk (blk_below (g := gb130) (o := .cells #[.slice Ao65 x131000_1.length co65] 24 (0, 0)) (by (with_reducible repeat first|apply bN|apply bD|apply bA);exact BK130.out) hb);have n7_ := Aside0.mk (below_step (by repeat (first|(with_reducible first|exact HB.out|apply eA|apply eN|apply eD|refine below_set ?_ GE124.out|refine below_set ?_ GE125.out|refine below_set ?_ GE126.out|refine below_set ?_ GE129.out|refine below_set ?_ GE130.out)|exact HB.out)) hb);clear HO_131000;clear BK124;clear BK125;clear BK126;clear BK129;clear BK130;clear HB;have HO_131000 := n0_;have HO144 := n1_;have BK124 := n2_;have BK125 := n3_;have BK126 := n4_;have BK129 := n5_;have BK130 := n6_;have HB := n7_;clear n0_ n1_ n2_ n3_ n4_ n5_ n6_ n7_;(try clear hb);(try clear hb2);(try clear hk);(try clear hi);(try clear ho0);obtain ⟨Ao67, co67, eo67⟩ := Kd.V_slice HO144.out;subst eo67;have hnb68 := NB125_124.out;have hnc68 := NB124_125.out;have hnb69 := NB125_126.out;have hnc69 := NB126_125.out;have hnb70 := NB125_129.out;have hnc70 := NB129_125.out;have hcz71_0 : w66.cell? ⟨gb125, 0, none⟩ = some (.slice none 0 0) := (blk_cell BK125.out 0).trans rfl;have hfz71_0 := blk_frozen BK125.out 0;have hnb72 := NB126_124.out;have hnc72 := NB124_126.out;have hnb73 := NB126_129.out;have hnc73 := NB129_126.out;have hcz74_0 : w66.cell? ⟨gb126, 0, none⟩ = some (.int .i64 0) := (blk_cell BK126.out 0).trans rfl;have hcz74_1 : w66.cell? ⟨gb126, 1, none⟩ = some (.int .i64 0) := (blk_cell BK126.out 1).trans rfl;have hfz74_0 := blk_frozen BK126.out 0;have hfz74_1 := blk_frozen BK126.out 1))
          refine bodyPost_ret (results_cc rfl _ _ gb125 gb126 24 27 #[.slice Ao67 t142.length co67] #[.int .i64 t145, .int .i64 t146] (0, 0) (0, 0) _ _ rfl (by (with_reducible repeat first|apply bN|apply bD|apply bA);refine blk_far ?_ NB125_126.out _;(with_reducible repeat first|apply bN|apply bD|apply bA);refine blk_far ?_ NB125_126.out _;(with_reducible repeat first|apply bN|apply bD|apply bA);refine blk_put (cs := #[.slice none 0 0]) ?_ 0 _ rfl;(with_reducible repeat first|apply bN|apply bD|apply bA);exact BK125.out) Try.underlying24 rfl (by kernel_rfl) rfl (by (with_reducible repeat first|apply bN|apply bD|apply bA);refine blk_put (cs := #[.int .i64 t145, .int .i64 0]) ?_ 1 _ rfl;(with_reducible repeat first|apply bN|apply bD|apply bA);refine blk_put (cs := #[.int .i64 0, .int .i64 0]) ?_ 0 _ rfl;(with_reducible repeat first|apply bN|apply bD|apply bA);refine blk_far ?_ NB126_125.out _;(with_reducible repeat first|apply bN|apply bD|apply bA);exact BK126.out) Try.underlying27 rfl (by kernel_rfl)) rfl ?_
          exact ⟨_, by first|rfl|(simp [errW_none, errW_some] <;> rfl)|(simp [*, errW_none, errW_some] <;> rfl), by (with_reducible repeat (first|apply Kd.V_alloc|apply Kd.V_drewN|apply Kd.V_drew));exact Kd.V_mono (Kd.V_far (p := ⟨gb126, 1, none⟩) (Kd.V_far (p := ⟨gb126, 0, none⟩) (Kd.V_far (p := ⟨gb125, 0, none⟩) (Kd.V_mono (Kd.V_mono HO144.out (fun k_ hk => (⟨hk, hk.2.2.1⟩ : _ ∧ k_ ≠ gb125))) (fun k_ hk => (⟨hk, hk.1.2.2.2.1⟩ : _ ∧ k_ ≠ gb126))) (fun _ hk => hk.1.2) (.slice Ao67 t142.length co67)) (fun _ hk => hk.2) (.int .i64 t145)) (fun _ hk => hk.2) (.int .i64 t146)) (fun _ hk => hk.1.1.1), by repeat (first|(with_reducible first|exact HB.out|apply eA|apply eN|apply eD|refine below_set ?_ GE124.out|refine below_set ?_ GE125.out|refine below_set ?_ GE126.out|refine below_set ?_ GE129.out|refine below_set ?_ GE130.out)|exact HB.out)⟩

/-! ### changeforgeequal_Strings_0: function 21 -/
def changeforgeequal_Strings_0.l0 : Nat → List ByteArray → List ByteArray → Int → Option (Bool)
  | 0, _, _, _ => none
  | k + 1, x0, x1, x5 => if x5 < (x0.length : Int) then (if 0 ≤ x5 then (if x5 < (x1.length : Int) then (if (rdOf ByteArray.empty x0 x5).toList = (rdOf ByteArray.empty x1 x5).toList then (changeforgeequal_Strings_0.l0 k x0 x1 (wrap64 (x5 + 1))) else (some false)) else (none)) else (none)) else (some true)
def changeforgeequal_Strings_0.f (k : Nat) (l0 : List ByteArray) (l1 : List ByteArray) : Option (Bool) := if (l0.length : Int) = (l1.length : Int) then (changeforgeequal_Strings_0.l0 k l0 l1 0) else (some false)
theorem changeforgeequal_Strings_0.mono_l : ∀ k, (∀ y0 y1 y2, LeO (changeforgeequal_Strings_0.l0 k y0 y1 y2) (changeforgeequal_Strings_0.l0 (k + 1) y0 y1 y2))
  | 0 => fun _ _ _ r h => by simp [changeforgeequal_Strings_0.l0] at h
  | k + 1 => by
    have ih0 := changeforgeequal_Strings_0.mono_l k
    · intro y0 y1 y2
      unfold changeforgeequal_Strings_0.l0
      repeat' first
      | (with_reducible exact ih0 _ _ _)
      | (with_reducible exact LeO.refl _)
      | (with_reducible exact LeO.none _)
      | (with_reducible refine LeO.ite ?_ ?_)
      | (with_reducible refine LeO.bind ?_ (fun _ => ?_))
      | exact ih0 _ _ _
      | exact LeO.none _
      | refine LeO.ite ?_ ?_
      | refine LeO.bind ?_ (fun _ => ?_)
theorem changeforgeequal_Strings_0.mono : ∀ a0 a1 k, LeO (changeforgeequal_Strings_0.f k a0 a1) (changeforgeequal_Strings_0.f (k + 1) a0 a1) := by
  intro a0 a1 k
  have ih0 := changeforgeequal_Strings_0.mono_l k
  unfold changeforgeequal_Strings_0.f
  repeat' first
      | (with_reducible exact ih0 _ _ _)
      | (with_reducible exact LeO.refl _)
      | (with_reducible exact LeO.none _)
      | (with_reducible refine LeO.ite ?_ ?_)
      | (with_reducible refine LeO.bind ?_ (fun _ => ?_))
      | exact ih0 _ _ _
      | exact LeO.none _
      | refine LeO.ite ?_ ?_
      | refine LeO.bind ?_ (fun _ => ?_)
set_option maxHeartbeats 8000000 in
set_option maxRecDepth 100000 in
theorem changeforgeequal_Strings_0.calls (k : Nat) (A0 : Option Addr) (c0 : Nat) (l0 : List ByteArray) (A1 : Option Addr) (c1 : Nat) (l1 : List ByteArray) (r : Bool) (w : World) (hr0 : Kd.C Kd.string w A0 l0.length l0) (hc0 : l0.length ≤ c0) (hr1 : Kd.C Kd.string w A1 l1.length l1) (hc1 : l1.length ≤ c1) (h : changeforgeequal_Strings_0.f k l0 l1 = some r) :
    Calls Try.prog 21 #[.slice A0 l0.length c0, .slice A1 l1.length c1] w fun e w' => e = .returned (.bool r) ∧ Drawn0 w w' := by
  have HR0 := Aside0.mk hr0
  have HC0 := Aside0.mk hc0
  clear hr0 hc0
  have HR1 := Aside0.mk hr1
  have HC1 := Aside0.mk hc1
  clear hr1 hc1
  have H : (if (l0.length : Int) = (l1.length : Int) then (changeforgeequal_Strings_0.l0 k l0 l1 0) else (some false)) = some r := h
  clear h
  by_cases c3 : (l0.length : Int) = (l1.length : Int)
  · rw [if_pos c3] at H
    have c3b0 : ((l0.length : Int) == (l1.length : Int)) = true := beq_iff_eq.mpr c3
    have c3b1 : ((l0.length : Int) != (l1.length : Int)) = false := bne_eq_false_iff_eq.mpr c3
    have c3b2 : (l0.length == l1.length) = true := by first|simpa using c3|(simp at c3 ⊢;omega)
    clear c3
    have H' := Aside0.mk H
    clear H
    go_enter Try.func21, Try.ntmps21
    go_wp2
    repeat (go_quiet (fail);try go_wp2)
    go_loopg [5] k (fun kq v5 w' => ∃ (x5_1 : Int), v5 = .int .i64 x5_1 ∧ Aside0 (changeforgeequal_Strings_0.l0 kq l0 l1 x5_1 = some r) ∧ Aside0 (kq ≤ k) ∧ Drawn0 w w')
    case atStart => exact ⟨(0), (by first|rfl|(simp;done)|(simp [*];done)), H', ⟨Nat.le_refl _⟩, by repeat (first|exact Drawn0.refl _|apply Drawn0.step)⟩
    case round =>
      clear H'
      try clear c1
      try clear c2
      try clear p2
      try clear c3
      try clear c3b0
      try clear c3b1
      try clear c3b2
      obtain ⟨x5_1, rfl, HA, HK1, ⟨m1, rfl⟩⟩ := hrel
      cases gk with
      | zero => exact absurd HA.out (by simp [changeforgeequal_Strings_0.l0])
      | succ k1 =>
        have H := HA.out
        clear HA
        simp only [changeforgeequal_Strings_0.l0] at H
        by_cases c4 : x5_1 < (l0.length : Int)
        · rw [if_pos c4] at H
          have c4b0 : decide (x5_1 < (l0.length : Int)) = true := decide_eq_true c4
          clear c4
          by_cases c5 : 0 ≤ x5_1
          · rw [if_pos c5] at H
            have c5b0 : decide (0 ≤ x5_1) = true := decide_eq_true c5
            clear c5
            by_cases c6 : x5_1 < (l1.length : Int)
            · rw [if_pos c6] at H
              have c6b0 : decide (x5_1 < (l1.length : Int)) = true := decide_eq_true c6
              clear c6
              by_cases c7 : (rdOf ByteArray.empty l0 x5_1).toList = (rdOf ByteArray.empty l1 x5_1).toList
              · rw [if_pos c7] at H
                have c7b0 : ((rdOf ByteArray.empty l0 x5_1).toList == (rdOf ByteArray.empty l1 x5_1).toList) = true := beq_iff_eq.mpr c7
                have c7b1 : ((rdOf ByteArray.empty l0 x5_1).toList != (rdOf ByteArray.empty l1 x5_1).toList) = false := bne_eq_false_iff_eq.mpr c7
                clear c7
                have H' := Aside0.mk H
                clear H
                have p147 : 0 ≤ (x5_1 : Int) := of_decide_eq_true (by first|(with_reducible assumption)|assumption)
                have q147 : x5_1 < (l0.length : Int) := of_decide_eq_true (by first|(with_reducible assumption)|assumption)
                obtain ⟨ad147, e147, hx147_0⟩ := Kd.at_string HR0.out x5_1 p147 q147
                cases e147
                replace p147 := eq_true p147
                replace q147 := eq_true q147
                have p148 : 0 ≤ (x5_1 : Int) := of_decide_eq_true (by first|(with_reducible assumption)|assumption)
                have q148 : x5_1 < (l1.length : Int) := of_decide_eq_true (by first|(with_reducible assumption)|assumption)
                obtain ⟨ad148, e148, hx148_0⟩ := Kd.at_string HR1.out x5_1 p148 q148
                cases e148
                replace p148 := eq_true p148
                replace q148 := eq_true q148
                go_wp2
                repeat (go_quiet (fail);try go_wp2)
                go_roundg k1
                case measure => have := HK1.out;omega
                case rel => exact ⟨(wrap64 (x5_1 + 1)), (by first|rfl|(simp;done)|(simp [*];done)), H', ⟨by have := HK1.out;omega⟩, by repeat (first|exact Drawn0.refl _|apply Drawn0.step)⟩
              · rw [if_neg c7] at H
                have c7b0 : ((rdOf ByteArray.empty l0 x5_1).toList == (rdOf ByteArray.empty l1 x5_1).toList) = false := beq_eq_false_iff_ne.mpr c7
                have c7b1 : ((rdOf ByteArray.empty l0 x5_1).toList != (rdOf ByteArray.empty l1 x5_1).toList) = true := bne_iff_ne.mpr c7
                obtain rfl := Option.some.inj H
                have p147 : 0 ≤ (x5_1 : Int) := of_decide_eq_true (by first|(with_reducible assumption)|assumption)
                have q147 : x5_1 < (l0.length : Int) := of_decide_eq_true (by first|(with_reducible assumption)|assumption)
                obtain ⟨ad147, e147, hx147_0⟩ := Kd.at_string HR0.out x5_1 p147 q147
                cases e147
                replace p147 := eq_true p147
                replace q147 := eq_true q147
                have p148 : 0 ≤ (x5_1 : Int) := of_decide_eq_true (by first|(with_reducible assumption)|assumption)
                have q148 : x5_1 < (l1.length : Int) := of_decide_eq_true (by first|(with_reducible assumption)|assumption)
                obtain ⟨ad148, e148, hx148_0⟩ := Kd.at_string HR1.out x5_1 p148 q148
                cases e148
                replace p148 := eq_true p148
                replace q148 := eq_true q148
                go_wp2
                repeat (go_quiet (fail);try go_wp2)
                go_ret
                exact ⟨by first|rfl|(simp;done)|(simp [*];done), by repeat (first|exact Drawn0.refl _|apply Drawn0.step)⟩
            · rw [if_neg c6] at H
              exact absurd H (by simp)
          · rw [if_neg c5] at H
            exact absurd H (by simp)
        · rw [if_neg c4] at H
          have c4b0 : decide (x5_1 < (l0.length : Int)) = false := decide_eq_false c4
          clear c4
          obtain rfl := Option.some.inj H
          go_wp2
          repeat (go_quiet (fail);try go_wp2)
          go_ret
          exact ⟨by first|rfl|(simp;done)|(simp [*];done), by repeat (first|exact Drawn0.refl _|apply Drawn0.step)⟩
  · rw [if_neg c3] at H
    have c3b0 : ((l0.length : Int) == (l1.length : Int)) = false := beq_eq_false_iff_ne.mpr c3
    have c3b1 : ((l0.length : Int) != (l1.length : Int)) = true := bne_iff_ne.mpr c3
    have c3b2 : (l0.length == l1.length) = false := by first|simpa using c3|(simp at c3 ⊢;omega)
    obtain rfl := Option.some.inj H
    go_enter Try.func21, Try.ntmps21
    go_wp2
    repeat (go_quiet (fail);try go_wp2)
    go_ret
    exact ⟨by first|rfl|(simp;done)|(simp [*];done), by repeat (first|exact Drawn0.refl _|apply Drawn0.step)⟩

/-! ### changeforgeequal_Strings: function 21 -/
theorem changeforgeequal_Strings_0.loop (a b : List ByteArray) (hl : a.length = b.length) (hm : a.length ≤ 9223372036854775807) (d : Nat) : ∀ (k i : Nat), i ≤ a.length → a.length - i = d → d < k →
    changeforgeequal_Strings_0.l0 k a b (i : Int) = some (decide (a.drop i = b.drop i)) := by
  induction d with
  | zero =>
    intro k i hi hd hk
    obtain ⟨k, rfl⟩ : ∃ m, k = m + 1 := ⟨k - 1, by omega⟩
    simp only [changeforgeequal_Strings_0.l0]
    rw [if_neg (by omega), List.drop_eq_nil_of_le (by omega), List.drop_eq_nil_of_le (by omega)]
    rfl
  | succ d ih =>
    intro k i hi hd hk
    obtain ⟨k, rfl⟩ : ∃ m, k = m + 1 := ⟨k - 1, by omega⟩
    rw [rdOf_drop ByteArray.empty a i (by omega), rdOf_drop ByteArray.empty b i (by omega)]
    simp only [changeforgeequal_Strings_0.l0]
    rw [if_pos (by omega), if_pos (by omega), if_pos (by omega)]
    by_cases e : rdOf ByteArray.empty a (i : Int) = rdOf ByteArray.empty b (i : Int)
    · rw [if_pos (toList_inj.mpr e), w64 (by omega) (by omega)]
      have := ih k (i + 1) (by omega) (by omega) (by omega)
      rw [Int.natCast_add] at this
      rw [show (((1 : Nat) : Int)) = 1 from rfl] at this
      rw [this, e]
      simp
    · rw [if_neg (fun h => e (toList_inj.mp h))]
      simp [e]
def changeforgeequal_Strings.f (l0 : List ByteArray) (l1 : List ByteArray) : Option (Bool) :=  some (decide (l0 = l1))
theorem changeforgeequal_Strings.calls (A0 : Option Addr) (c0 : Nat) (l0 : List ByteArray) (A1 : Option Addr) (c1 : Nat) (l1 : List ByteArray) (r : Bool) (w : World) (hr0 : Kd.C Kd.string w A0 l0.length l0) (hc0 : l0.length ≤ c0) (hr1 : Kd.C Kd.string w A1 l1.length l1) (hc1 : l1.length ≤ c1) (h : changeforgeequal_Strings.f l0 l1 = some r) :
    Calls Try.prog 21 #[.slice A0 l0.length c0, .slice A1 l1.length c1] w fun e w' => e = .returned (.bool r) ∧ Drawn0 w w' := by
  have hm : l0.length ≤ 9223372036854775807 := hr0.2.1
  have h' : changeforgeequal_Strings_0.f (l0.length + 1) l0 l1 = some r := by
    rw [← h]
    unfold changeforgeequal_Strings_0.f changeforgeequal_Strings.f
    by_cases c : l0.length = l1.length
    · rw [if_pos (by omega)]
      have := changeforgeequal_Strings_0.loop l0 l1 c hm l0.length (l0.length + 1) 0 (by omega) (by omega) (by omega)
      simpa using this
    · rw [if_neg (by omega)]
      have : ¬ l0 = l1 := fun e => c (by rw [e])
      simp [this]
  exact (changeforgeequal_Strings_0.calls (l0.length + 1) A0 c0 l0 A1 c1 l1 r w hr0 hc0 hr1 hc1 (h'))


end Go.Proofs.Ytdnnkhogpobjbaa.PI
