/- Printed by a program of this session out of the translation: Lean functions for Go functions, and proofs that the Go functions answer the same. -/
import Derived.Test.YtdnnkhogpobjbaaPI0
import Derived.Test.YtdnnkhogpobjbaaPI1
import Derived.Test.YtdnnkhogpobjbaaPI2
import Derived.Test.YtdnnkhogpobjbaaPI3
import Derived.Test.YtdnnkhogpobjbaaPI6
namespace Go.Proofs.Ytdnnkhogpobjbaa.PI
open Go.RowKit Go.Proofs.Ytdnnkhogpobjbaa.Pre Go.Proofs.YtdnnkhogpobjbaaW.PrintWords Go.Proofs.YtdnnkhogpobjbaaW.PrintLast Go.Proofs.YtdnnkhogpobjbaaW.PrintMore
attribute [local go_sem] max2_int min2_int max_two min_two max_three min_three max_four min_four   -- for this text's walks alone
set_option linter.unusedVariables false
set_option linter.unusedSimpArgs false

attribute [local go_sem high] eqA27
/-! ### textpatch_Apply_0: function 15 -/
def textpatch_Apply_0.l0 : Nat → List ByteArray → List ByteArray → Int → List (S47) → Int → Int → Option (List ByteArray × Int × Int)
  | 0, _, _, _, _, _, _ => none
  | k + 1, x1, x8, x9, x25, x26, x27 => if x27 < x26 then (if 0 ≤ x27 then (if x27 < (x25.length : Int) then ((textpatch_End.f ((rd_T47 x25 x27).f0) ((rd_T47 x25 x27).f1) ((rd_T47 x25 x27).f2)).bind fun t173 => (if t173 > (x1.length : Int) then (some (([] : List ByteArray), 19, x27)) else ((textpatch_End.f ((rd_T47 x25 x27).f0) ((rd_T47 x25 x27).f1) ((rd_T47 x25 x27).f2)).bind fun t174 => (if 0 ≤ ((rd_T47 x25 x27).f0) then (if ((rd_T47 x25 x27).f0) ≤ t174 then (if t174 ≤ (x1.length : Int) then ((slices_Equal_string_string.f ((x1.take (t174 : Int).toNat).drop (((rd_T47 x25 x27).f0) : Int).toNat) ((rd_T47 x25 x27).f1)).bind fun t176 => (if t176 = true then (if 0 ≤ x9 then (if x9 ≤ ((rd_T47 x25 x27).f0) then (if ((rd_T47 x25 x27).f0) ≤ (x1.length : Int) then (if x8.length + ((x1.take (((rd_T47 x25 x27).f0) : Int).toNat).drop (x9 : Int).toNat).length < 8796093022208 then ((some (x8 ++ ((x1.take (((rd_T47 x25 x27).f0) : Int).toNat).drop (x9 : Int).toNat) : List ByteArray)).bind fun y178 => (if y178.length + ((rd_T47 x25 x27).f2).length < 8796093022208 then ((textpatch_End.f ((rd_T47 x25 x27).f0) ((rd_T47 x25 x27).f1) ((rd_T47 x25 x27).f2)).bind fun t184 => (textpatch_Apply_0.l0 k x1 (y178 ++ ((rd_T47 x25 x27).f2)) t184 x25 x26 (wrap64 (x27 + 1)))) else (none))) else (none)) else (none)) else (none)) else (none)) else (some (([] : List ByteArray), 19, x27)))) else (none)) else (none)) else (none))))) else (none)) else (none)) else (if 0 ≤ x9 then (if x9 ≤ (x1.length : Int) then (if x8.length + (x1.drop (x9 : Int).toNat).length < 8796093022208 then ((some (x8 ++ (x1.drop (x9 : Int).toNat) : List ByteArray)).bind fun y168 => (if (y168.length : Int) > 120 then (some (([] : List ByteArray), 10, (-1))) else (some (y168, 0, 0)))) else (none)) else (none)) else (none))
def textpatch_Apply_0.f (k : Nat) (l0_0 : List (S47)) (l1 : List ByteArray) : Option (List ByteArray × Int × Int) := (textpatch_Validate.f l0_0).bind fun bt163 => (if (!(bt163.1 == 0) || (!(bt163.2 == 0))) = true then (some (([] : List ByteArray), bt163.1, bt163.2)) else ((lines_Code.f l1).bind fun t166 => (if t166 = 0 then (textpatch_Apply_0.l0 k l1 ([] : List ByteArray) 0 l0_0 (l0_0.length : Int) 0) else (some (([] : List ByteArray), t166, (-2))))))
theorem textpatch_Apply_0.mono_l : ∀ k, (∀ y0 y1 y2 y3 y4 y5, LeO (textpatch_Apply_0.l0 k y0 y1 y2 y3 y4 y5) (textpatch_Apply_0.l0 (k + 1) y0 y1 y2 y3 y4 y5))
  | 0 => fun _ _ _ _ _ _ r h => by simp [textpatch_Apply_0.l0] at h
  | k + 1 => by
    have ih0 := textpatch_Apply_0.mono_l k
    · intro y0 y1 y2 y3 y4 y5
      unfold textpatch_Apply_0.l0
      repeat' first
      | (with_reducible exact ih0 _ _ _ _ _ _)
      | (with_reducible exact LeO.refl _)
      | (with_reducible exact LeO.none _)
      | (with_reducible refine LeO.ite ?_ ?_)
      | (with_reducible refine LeO.bind ?_ (fun _ => ?_))
      | exact ih0 _ _ _ _ _ _
      | exact LeO.none _
      | refine LeO.ite ?_ ?_
      | refine LeO.bind ?_ (fun _ => ?_)
theorem textpatch_Apply_0.mono : ∀ a0 a1 k, LeO (textpatch_Apply_0.f k a0 a1) (textpatch_Apply_0.f (k + 1) a0 a1) := by
  intro a0 a1 k
  have ih0 := textpatch_Apply_0.mono_l k
  unfold textpatch_Apply_0.f
  repeat' first
      | (with_reducible exact ih0 _ _ _ _ _ _)
      | (with_reducible exact LeO.refl _)
      | (with_reducible exact LeO.none _)
      | (with_reducible refine LeO.ite ?_ ?_)
      | (with_reducible refine LeO.bind ?_ (fun _ => ?_))
      | exact ih0 _ _ _ _ _ _
      | exact LeO.none _
      | refine LeO.ite ?_ ?_
      | refine LeO.bind ?_ (fun _ => ?_)
def textpatch_Apply_0.T12 : Bool × List (List Nat × List Nat) := (true, [([], []), ([0], [0]), ([], []), ([2], [2]), ([1, 3], [1, 3]), ([4, 1], [4]), ([5], [5]), ([5], [5]), ([7, 5], [5, 7]), ([5], [5]), ([9, 5, 5], [5, 9]), ([6, 8, 10, 5], [5, 6, 8, 10]), ([5], [5]), ([12, 5], [5, 12]), ([11, 13, 10, 5], [5, 11, 13]), ([14, 5], [5, 14]), ([5, 15], [5, 15])])
def textpatch_Apply_0.B12 : List Nat := [0, 1, 0, 4, 15, 31, 63, 63, 191, 63, 575, 2047, 63, 4159, 16383, 32767, 65535]
theorem textpatch_Apply_0.tab12 : rtab .any (opsOf Try.f15 12) = textpatch_Apply_0.T12 := by kernel_rfl
theorem textpatch_Apply_0.bits12 : waitsOk textpatch_Apply_0.T12.2 textpatch_Apply_0.B12 = true := by kernel_rfl
def textpatch_Apply_0.T14 : Bool × List (List Nat × List Nat) := (true, [([], []), ([], []), ([], []), ([], []), ([3], [3]), ([1, 2, 4], [1, 2, 4]), ([0, 5], [0, 5]), ([], []), ([7], [7]), ([6, 8, 6], [6, 8]), ([9, 9, 0, 1, 2, 3, 4, 5, 6, 7, 8, 9], [0, 9])])
def textpatch_Apply_0.B14 : List Nat := [0, 0, 0, 0, 8, 30, 63, 0, 128, 511, 1023]
theorem textpatch_Apply_0.tab14 : rtab .any (opsOf Try.f15 14) = textpatch_Apply_0.T14 := by kernel_rfl
theorem textpatch_Apply_0.bits14 : waitsOk textpatch_Apply_0.T14.2 textpatch_Apply_0.B14 = true := by kernel_rfl
set_option maxHeartbeats 8000000 in
set_option maxRecDepth 100000 in
theorem textpatch_Apply_0.calls (k : Nat) (A0_0 : Option Addr) (c0_0 : Nat) (l0_0 : List (S47)) (A1 : Option Addr) (c1 : Nat) (l1 : List ByteArray) (r1 : List ByteArray) (r2 : Int) (r3 : Int) (w : World) (hr0_0 : Kd.C k47 w A0_0 l0_0.length l0_0) (hc0_0 : l0_0.length ≤ c0_0) (hr1 : Kd.C Kd.string w A1 l1.length l1) (hc1 : l1.length ≤ c1) (h : textpatch_Apply_0.f k l0_0 l1 = some (r1, r2, r3)) :
    Calls Try.prog 15 #[.agg #[.slice A0_0 l0_0.length c0_0], .slice A1 l1.length c1] w fun e w' => ∃ v0_ : Value, e = .returned (.tuple #[v0_, .agg #[.int .i64 r2, .int .i64 r3]]) ∧ Kd.R Kd.string 9 w' w.heap.size (fun _ => True) v0_ r1 ∧ Below w.heap.size w w' := by
  have hu24 := Try.underlying24
  have hu27 := Try.underlying27
  have hu47 := Try.underlying47
  have HR0_0 := Aside0.mk hr0_0
  have HC0_0 := Aside0.mk hc0_0
  clear hr0_0 hc0_0
  have HR1 := Aside0.mk hr1
  have HC1 := Aside0.mk hc1
  clear hr1 hc1
  have HB := Aside0.mk (Below.refl w.heap.size w)
  have H : ((textpatch_Validate.f l0_0).bind fun bt163 => (if (!(bt163.1 == 0) || (!(bt163.2 == 0))) = true then (some (([] : List ByteArray), bt163.1, bt163.2)) else ((lines_Code.f l1).bind fun t166 => (if t166 = 0 then (textpatch_Apply_0.l0 k l1 ([] : List ByteArray) 0 l0_0 (l0_0.length : Int) 0) else (some (([] : List ByteArray), t166, (-2))))))) = some (r1, r2, r3) := h
  clear h
  replace H := Option.bind_eq_some_iff.mp H
  obtain ⟨⟨t163, t164⟩, A30, H⟩ := H
  replace H : (if (!(t163 == 0) || (!(t164 == 0))) = true then (some (([] : List ByteArray), t163, t164)) else ((lines_Code.f l1).bind fun t166 => (if t166 = 0 then (textpatch_Apply_0.l0 k l1 ([] : List ByteArray) 0 l0_0 (l0_0.length : Int) 0) else (some (([] : List ByteArray), t166, (-2)))))) = some (r1, r2, r3) := H
  have A3 := Aside0.mk A30
  clear A30
  by_cases c4 : (!(t163 == 0) || (!(t164 == 0))) = true
  · rw [if_pos c4] at H
    have c4b0 : (!(t163 == 0) || (!(t164 == 0))) = true := c4
    clear c4
    simp only [Option.some.injEq, Prod.mk.injEq] at H
    obtain ⟨rfl, rfl, rfl⟩ := H
    go_enter Try.func15, Try.ntmps15
    try go_wp2_with (first|((with_reducible refine gate_dst (N := 2) rfl ?_);refine box_event ?hg (N := 2) ?hd (cs := #[.slice A0_0 l0_0.length c0_0]) (t := 24) ?hr ?_;(case hd => rfl);(case hg => rfl);(case hr => first|(go_simp;done)|(go_simp;rfl));intro gb161 hg w5 hbox hb;have n0_ := Aside0.mk (below_step (by repeat (first|(with_reducible first|exact HB.out|apply eA|apply eN|apply eD)|exact HB.out)) hb);have n1_ := Aside0.mk (hbox);have n2_ := Aside0.mk ((by rw [hg];exact (below_size (by repeat (first|(with_reducible first|exact HB.out|apply eA|apply eN|apply eD)|exact HB.out))) : w.heap.size ≤ gb161));have n3_ := Aside0.mk ((by rw [hg];exact (below_size (by repeat (first|(with_reducible first|exact HB.out|apply eA|apply eN|apply eD)|exact HB.out))) : w.heap.size ≤ gb161));clear HB;have HB := n0_;have BK161 := n1_;have GW161 := n2_;have GE161 := n3_;clear n0_ n1_ n2_ n3_;clear hb hbox hg)|((with_reducible refine gate_dst (N := 5) rfl ?_);refine box_event ?hg (N := 5) ?hd (cs := #[.int .i64 0, .int .i64 0]) (t := 27) ?hr ?_;(case hd => rfl);(case hg => rfl);(case hr => first|(go_simp;done)|(go_simp;rfl));intro gb162 hg w6 hbox hb;have n0_ := Aside0.mk (blk_below (g := gb161) (o := .cells #[.slice A0_0 l0_0.length c0_0] 24 (0, 0)) (by (with_reducible repeat first|apply bN|apply bD|apply bA);exact BK161.out) hb);have n1_ := Aside0.mk (below_step (by repeat (first|(with_reducible first|exact HB.out|apply eA|apply eN|apply eD|refine below_set ?_ GE161.out)|exact HB.out)) hb);have n2_ := Aside0.mk (hbox);have n3_ := Aside0.mk ((by rw [hg];exact (below_size (by repeat (first|(with_reducible first|exact HB.out|apply eA|apply eN|apply eD|refine below_set ?_ GE161.out)|exact HB.out))) : w.heap.size ≤ gb162));have n4_ := Aside0.mk ((by rw [hg];exact (below_size (by repeat (first|(with_reducible first|exact HB.out|apply eA|apply eN|apply eD|refine below_set ?_ GE161.out)|exact HB.out))) : w.heap.size ≤ gb162));have n5_ := Aside0.mk ((by rw [hg];exact Nat.ne_of_lt (blk_lt (g := gb161) (o := .cells #[.slice A0_0 l0_0.length c0_0] 24 (0, 0)) (by (with_reducible repeat first|apply bN|apply bD|apply bA);exact BK161.out)) : gb161 ≠ gb162));have n6_ := Aside0.mk ((by rw [hg];exact Nat.ne_of_gt (blk_lt (g := gb161) (o := .cells #[.slice A0_0 l0_0.length c0_0] 24 (0, 0)) (by (with_reducible repeat first|apply bN|apply bD|apply bA);exact BK161.out)) : gb162 ≠ gb161));clear BK161;clear HB;have BK161 := n0_;have HB := n1_;have BK162 := n2_;have GW162 := n3_;have GE162 := n4_;have NB161_162 := n5_;have NB162_161 := n6_;clear n0_ n1_ n2_ n3_ n4_ n5_ n6_;clear hb hbox hg;have hnb7 := NB161_162.out;have hnc7 := NB162_161.out;have hcz8_0 : w6.cell? ⟨gb161, 0, none⟩ = some (.slice A0_0 l0_0.length c0_0) := (blk_cell BK161.out 0).trans rfl;have hfz8_0 := blk_frozen BK161.out 0)|((with_reducible refine gate_callee (f := 19) rfl ?_);refine goesL_ (some 13) rfl rfl Try.func19 (by kernel_rfl) rfl #[.agg #[.slice A0_0 l0_0.length c0_0]] rfl (by (try simp only [List.map_toArray, List.map_cons, List.map_nil]);first|done|rfl|(simp only [List.length_drop, List.length_take];rfl)) ?_;(with_reducible refine (textpatch_Validate.calls _ _ l0_0 t163 t164 _ ?side1 ?side2 A3.out).mono ?_);(case side1 => repeat (first|exact (Kd.C_below HR0_0.out HB.out)|(with_reducible refine Kd.C_alloc ?_ _)|(with_reducible refine Kd.C_drewN ?_ _)|(with_reducible refine Kd.C_drew ?_)));(case side2 => exact HC0_0.out);rintro e w9 ⟨rfl, hb⟩;refine ⟨_, rfl, ?_⟩;have n0_ := Aside0.mk (blk_below (g := gb161) (o := .cells #[.slice A0_0 l0_0.length c0_0] 24 (0, 0)) (by (with_reducible repeat first|apply bN|apply bD|apply bA);exact BK161.out) hb);have n1_ := Aside0.mk (blk_below (g := gb162) (o := .cells #[.int .i64 0, .int .i64 0] 27 (0, 0)) (by (with_reducible repeat first|apply bN|apply bD|apply bA);exact BK162.out) hb);have n2_ := Aside0.mk (below_step (by repeat (first|(with_reducible first|exact HB.out|apply eA|apply eN|apply eD|refine below_set ?_ GE161.out|refine below_set ?_ GE162.out)|exact HB.out)) hb);clear BK161;clear BK162;clear HB;have BK161 := n0_;have BK162 := n1_;have HB := n2_;clear n0_ n1_ n2_;(try clear hb);(try clear hb2);(try clear hk);(try clear hi))|((with_reducible refine gate_dst (N := 6) rfl ?_);refine box_event ?hg (N := 6) ?hd (cs := #[.int .i64 0, .int .i64 0]) (t := 27) ?hr ?_;(case hd => rfl);(case hg => rfl);(case hr => first|(go_simp;done)|(go_simp;rfl));intro gb165 hg w10 hbox hb;have n0_ := Aside0.mk (blk_below (g := gb161) (o := .cells #[.slice A0_0 l0_0.length c0_0] 24 (0, 0)) (by (with_reducible repeat first|apply bN|apply bD|apply bA);exact BK161.out) hb);have n1_ := Aside0.mk (blk_below (g := gb162) (o := .cells #[.int .i64 0, .int .i64 0] 27 (0, 0)) (by (with_reducible repeat first|apply bN|apply bD|apply bA);exact BK162.out) hb);have n2_ := Aside0.mk (below_step (by repeat (first|(with_reducible first|exact HB.out|apply eA|apply eN|apply eD|refine below_set ?_ GE161.out|refine below_set ?_ GE162.out)|exact HB.out)) hb);have n3_ := Aside0.mk (hbox);have n4_ := Aside0.mk ((by rw [hg];exact (below_size (by repeat (first|(with_reducible first|exact HB.out|apply eA|apply eN|apply eD|refine below_set ?_ GE161.out|refine below_set ?_ GE162.out)|exact HB.out))) : w.heap.size ≤ gb165));have n5_ := Aside0.mk ((by rw [hg];exact (below_size (by repeat (first|(with_reducible first|exact HB.out|apply eA|apply eN|apply eD|refine below_set ?_ GE161.out|refine below_set ?_ GE162.out)|exact HB.out))) : w.heap.size ≤ gb165));have n6_ := Aside0.mk ((by rw [hg];exact Nat.ne_of_lt (blk_lt (g := gb161) (o := .cells #[.slice A0_0 l0_0.length c0_0] 24 (0, 0)) (by (with_reducible repeat first|apply bN|apply bD|apply bA);exact BK161.out)) : gb161 ≠ gb165));have n7_ := Aside0.mk ((by rw [hg];exact Nat.ne_of_gt (blk_lt (g := gb161) (o := .cells #[.slice A0_0 l0_0.length c0_0] 24 (0, 0)) (by (with_reducible repeat first|apply bN|apply bD|apply bA);exact BK161.out)) : gb165 ≠ gb161));have n8_ := Aside0.mk ((by rw [hg];exact Nat.ne_of_lt (blk_lt (g := gb162) (o := .cells #[.int .i64 0, .int .i64 0] 27 (0, 0)) (by (with_reducible repeat first|apply bN|apply bD|apply bA);exact BK162.out)) : gb162 ≠ gb165));have n9_ := Aside0.mk ((by rw [hg];exact Nat.ne_of_gt (blk_lt (g := gb162) (o := .cells #[.int .i64 0, .int .i64 0] 27 (0, 0)) (by (with_reducible repeat first|apply bN|apply bD|apply bA);exact BK162.out)) : gb165 ≠ gb162));clear BK161;clear BK162;clear HB;have BK161 := n0_;have BK162 := n1_;have HB := n2_;have BK165 := n3_;have GW165 := n4_;have GE165 := n5_;have NB161_165 := n6_;have NB165_161 := n7_;have NB162_165 := n8_;have NB165_162 := n9_;clear n0_ n1_ n2_ n3_ n4_ n5_ n6_ n7_ n8_ n9_;clear hb hbox hg;have hnb11 := NB165_161.out;have hnc11 := NB161_165.out;have hnb12 := NB165_162.out;have hnc12 := NB162_165.out;have hcz13_0 : w10.cell? ⟨gb165, 0, none⟩ = some (.int .i64 0) := (blk_cell BK165.out 0).trans rfl;have hcz13_1 : w10.cell? ⟨gb165, 1, none⟩ = some (.int .i64 0) := (blk_cell BK165.out 1).trans rfl;have hfz13_0 := blk_frozen BK165.out 0;have hfz13_1 := blk_frozen BK165.out 1))
    have n0_ : Aside0 (((w10.setCell ⟨gb165, 0, none⟩ (.int .i64 t163)).setCell ⟨gb165, 1, none⟩ (.int .i64 t164)).heap[gb161]? = some (.cells #[.slice A0_0 l0_0.length c0_0] 24 (0, 0))) := ⟨by (with_reducible repeat first|apply bN|apply bD|apply bA);refine blk_far ?_ NB161_165.out _;(with_reducible repeat first|apply bN|apply bD|apply bA);refine blk_far ?_ NB161_165.out _;(with_reducible repeat first|apply bN|apply bD|apply bA);exact BK161.out⟩
    have n1_ : Aside0 (((w10.setCell ⟨gb165, 0, none⟩ (.int .i64 t163)).setCell ⟨gb165, 1, none⟩ (.int .i64 t164)).heap[gb162]? = some (.cells #[.int .i64 0, .int .i64 0] 27 (0, 0))) := ⟨by (with_reducible repeat first|apply bN|apply bD|apply bA);refine blk_far ?_ NB162_165.out _;(with_reducible repeat first|apply bN|apply bD|apply bA);refine blk_far ?_ NB162_165.out _;(with_reducible repeat first|apply bN|apply bD|apply bA);exact BK162.out⟩
    have n2_ : Aside0 (((w10.setCell ⟨gb165, 0, none⟩ (.int .i64 t163)).setCell ⟨gb165, 1, none⟩ (.int .i64 t164)).heap[gb165]? = some (.cells #[.int .i64 t163, .int .i64 t164] 27 (0, 0))) := ⟨by (with_reducible repeat first|apply bN|apply bD|apply bA);refine blk_put (cs := #[.int .i64 t163, .int .i64 0]) ?_ 1 _ rfl;(with_reducible repeat first|apply bN|apply bD|apply bA);refine blk_put (cs := #[.int .i64 0, .int .i64 0]) ?_ 0 _ rfl;(with_reducible repeat first|apply bN|apply bD|apply bA);exact BK165.out⟩
    have n3_ : Aside0 (Below w.heap.size w ((w10.setCell ⟨gb165, 0, none⟩ (.int .i64 t163)).setCell ⟨gb165, 1, none⟩ (.int .i64 t164))) := ⟨by repeat (first|(with_reducible first|exact HB.out|apply eA|apply eN|apply eD|refine below_set ?_ GE161.out|refine below_set ?_ GE162.out|refine below_set ?_ GE165.out)|exact HB.out)⟩
    (try clear BK161)
    (try clear BK162)
    (try clear BK165)
    (try clear HB)
    generalize ((w10.setCell ⟨gb165, 0, none⟩ (.int .i64 t163)).setCell ⟨gb165, 1, none⟩ (.int .i64 t164)) = w14 at n0_ n1_ n2_ n3_ ⊢
    have BK161 := n0_
    have BK162 := n1_
    have BK165 := n2_
    have HB := n3_
    clear n0_ n1_ n2_ n3_
    have n0_ := Aside0.mk (blk_drew BK161.out)
    have n1_ := Aside0.mk (blk_drew BK162.out)
    have n2_ := Aside0.mk (blk_drew BK165.out)
    have n3_ := Aside0.mk (below_drew1 HB.out)
    clear BK161
    clear BK162
    clear BK165
    clear HB
    have BK161 := n0_
    have BK162 := n1_
    have BK165 := n2_
    have HB := n3_
    clear n0_ n1_ n2_ n3_
    refine start_ (n := 3) (S := fun w' => w'.cell? ⟨gb165, 0, none⟩ = some (.int .i64 t163) ∧ w'.cell? ⟨gb165, 1, none⟩ = some (.int .i64 t164)) (ds := []) #[false, false, false] (by kernel_rfl) rfl rfl ⟨(blk_cell BK165.out 0).trans rfl, (blk_cell BK165.out 1).trans rfl⟩ (fun hHeld => ?_)
    generalize w14.drew = w15 at BK161 BK162 BK165 HB hHeld ⊢
    refine pure_ (i := 1) (N := some 4) (v := ?_) (a' := ?_) #[false, true, false] rfl rfl (by kernel_rfl) (fun _ _ _ h => h) (Or.inl ⟨by rfl, ?_⟩) ?_ ?_
    rotate_left
    · intro w'
      go_simp
      with_reducible rfl
    rotate_left
    · simp only [Act.put, sA, sB, sC, i64_w, i32_w]
      rfl
    refine take_ (i := 0) (N := some 17) (v := ?_) (a' := ?_) #[true, true, false] rfl rfl (by kernel_rfl) (fun _ _ _ h => h) (Or.inl ⟨by rfl, ?_⟩) hHeld ?_ ?_
    rotate_left
    · rintro w' ⟨s0, s1⟩
      go_simp
      with_reducible rfl
    rotate_left
    · simp only [Act.put, sA, sB, sC, i64_w, i32_w]
      rfl
    refine one_ (i := 2) (N := none) #[true, true, true] rfl rfl (by kernel_rfl) (by decide) (fun K hK => ?_)
    have hs16 : w15.cell? ⟨gb162, 0, none⟩ = some (.int .i64 0) := (blk_cell BK162.out 0).trans rfl
    have hfs16 := blk_frozen BK162.out 0
    have hns16_0 := NB161_162.out
    have hns16_2 := NB165_162.out
    have hms16_0 := NB162_161.out
    have hms16_2 := NB162_165.out
    have hs17 : w15.cell? ⟨gb162, 1, none⟩ = some (.int .i64 0) := (blk_cell BK162.out 1).trans rfl
    have hfs17 := blk_frozen BK162.out 1
    have hns17_0 := NB161_162.out
    have hns17_2 := NB165_162.out
    have hms17_0 := NB162_161.out
    have hms17_2 := NB162_165.out
    refine skip_ (w1 := ?_) (by rfl) rfl ?_ ?_
    rotate_left
    · go_simp
      rfl
    refine hK.out _ _ ⟨((cell_far (p := ⟨gb162, _, none⟩) NB165_162.out _).trans (((cell_far (p := ⟨gb162, _, none⟩) NB165_162.out _).trans (hHeld.1)))), ((cell_far (p := ⟨gb162, _, none⟩) NB165_162.out _).trans (((cell_far (p := ⟨gb162, _, none⟩) NB165_162.out _).trans (hHeld.2))))⟩ (fun hHeld => ?_)
    clear hK K
    refine done_ (by kernel_rfl) ?_
    try go_wp2
    refine bodyPost_ret (results_tc rfl _ _ gb162 27 #[.int .i64 t163, .int .i64 t164] (0, 0) _ rfl (by (with_reducible repeat first|apply bN|apply bD|apply bA);refine blk_put (cs := #[.int .i64 t163, .int .i64 0]) ?_ 1 _ rfl;(with_reducible repeat first|apply bN|apply bD|apply bA);refine blk_put (cs := #[.int .i64 0, .int .i64 0]) ?_ 0 _ rfl;(with_reducible repeat first|apply bN|apply bD|apply bA);exact BK162.out) Try.underlying27 rfl (by kernel_rfl)) rfl ?_
    exact ⟨_, by first|rfl|(simp [errW_none, errW_some] <;> rfl)|(simp [*, errW_none, errW_some] <;> rfl), by first|exact Kd.R_nil _ _ _ _ _|exact Kd.N_nil _ _ _ _ _|exact Kd.V_nil _ _ _ _ _|exact Kd.Q_nil _ _ _ _ _|exact Kd.S_nil _ _ _ _ _, by repeat (first|(with_reducible first|exact HB.out|apply eA|apply eN|apply eD|refine below_set ?_ GE161.out|refine below_set ?_ GE162.out|refine below_set ?_ GE165.out)|exact HB.out)⟩
  · rw [if_neg c4] at H
    have c4b0 : (!(t163 == 0) || (!(t164 == 0))) = false := by simpa using c4
    clear c4
    replace H := Option.bind_eq_some_iff.mp H
    obtain ⟨t166, A180, H⟩ := H
    replace H : (if t166 = 0 then (textpatch_Apply_0.l0 k l1 ([] : List ByteArray) 0 l0_0 (l0_0.length : Int) 0) else (some (([] : List ByteArray), t166, (-2)))) = some (r1, r2, r3) := H
    have A18 := Aside0.mk A180
    clear A180
    by_cases c19 : t166 = 0
    · rw [if_pos c19] at H
      have c19b0 : (t166 == 0) = true := beq_iff_eq.mpr c19
      have c19b1 : (t166 != 0) = false := bne_eq_false_iff_eq.mpr c19
      clear c19
      have H' := Aside0.mk H
      clear H
      go_enter Try.func15, Try.ntmps15
      go_wp2_with (first|((with_reducible refine gate_dst (N := 2) rfl ?_);refine box_event ?hg (N := 2) ?hd (cs := #[.slice A0_0 l0_0.length c0_0]) (t := 24) ?hr ?_;(case hd => rfl);(case hg => rfl);(case hr => first|(go_simp;done)|(go_simp;rfl));intro gb161 hg w20 hbox hb;have n0_ := Aside0.mk (below_step (by repeat (first|(with_reducible first|exact HB.out|apply eA|apply eN|apply eD)|exact HB.out)) hb);have n1_ := Aside0.mk (hbox);have n2_ := Aside0.mk ((by rw [hg];exact (below_size (by repeat (first|(with_reducible first|exact HB.out|apply eA|apply eN|apply eD)|exact HB.out))) : w.heap.size ≤ gb161));have n3_ := Aside0.mk ((by rw [hg];exact (below_size (by repeat (first|(with_reducible first|exact HB.out|apply eA|apply eN|apply eD)|exact HB.out))) : w.heap.size ≤ gb161));clear HB;have HB := n0_;have BK161 := n1_;have GW161 := n2_;have GE161 := n3_;clear n0_ n1_ n2_ n3_;clear hb hbox hg)|((with_reducible refine gate_dst (N := 5) rfl ?_);refine box_event ?hg (N := 5) ?hd (cs := #[.int .i64 0, .int .i64 0]) (t := 27) ?hr ?_;(case hd => rfl);(case hg => rfl);(case hr => first|(go_simp;done)|(go_simp;rfl));intro gb162 hg w21 hbox hb;have n0_ := Aside0.mk (blk_below (g := gb161) (o := .cells #[.slice A0_0 l0_0.length c0_0] 24 (0, 0)) (by (with_reducible repeat first|apply bN|apply bD|apply bA);exact BK161.out) hb);have n1_ := Aside0.mk (below_step (by repeat (first|(with_reducible first|exact HB.out|apply eA|apply eN|apply eD|refine below_set ?_ GE161.out)|exact HB.out)) hb);have n2_ := Aside0.mk (hbox);have n3_ := Aside0.mk ((by rw [hg];exact (below_size (by repeat (first|(with_reducible first|exact HB.out|apply eA|apply eN|apply eD|refine below_set ?_ GE161.out)|exact HB.out))) : w.heap.size ≤ gb162));have n4_ := Aside0.mk ((by rw [hg];exact (below_size (by repeat (first|(with_reducible first|exact HB.out|apply eA|apply eN|apply eD|refine below_set ?_ GE161.out)|exact HB.out))) : w.heap.size ≤ gb162));have n5_ := Aside0.mk ((by rw [hg];exact Nat.ne_of_lt (blk_lt (g := gb161) (o := .cells #[.slice A0_0 l0_0.length c0_0] 24 (0, 0)) (by (with_reducible repeat first|apply bN|apply bD|apply bA);exact BK161.out)) : gb161 ≠ gb162));have n6_ := Aside0.mk ((by rw [hg];exact Nat.ne_of_gt (blk_lt (g := gb161) (o := .cells #[.slice A0_0 l0_0.length c0_0] 24 (0, 0)) (by (with_reducible repeat first|apply bN|apply bD|apply bA);exact BK161.out)) : gb162 ≠ gb161));clear BK161;clear HB;have BK161 := n0_;have HB := n1_;have BK162 := n2_;have GW162 := n3_;have GE162 := n4_;have NB161_162 := n5_;have NB162_161 := n6_;clear n0_ n1_ n2_ n3_ n4_ n5_ n6_;clear hb hbox hg;have hnb22 := NB161_162.out;have hnc22 := NB162_161.out;have hcz23_0 : w21.cell? ⟨gb161, 0, none⟩ = some (.slice A0_0 l0_0.length c0_0) := (blk_cell BK161.out 0).trans rfl;have hfz23_0 := blk_frozen BK161.out 0)|((with_reducible refine gate_callee (f := 19) rfl ?_);refine goesL_ (some 13) rfl rfl Try.func19 (by kernel_rfl) rfl #[.agg #[.slice A0_0 l0_0.length c0_0]] rfl (by (try simp only [List.map_toArray, List.map_cons, List.map_nil]);first|done|rfl|(simp only [List.length_drop, List.length_take];rfl)) ?_;(with_reducible refine (textpatch_Validate.calls _ _ l0_0 t163 t164 _ ?side1 ?side2 A3.out).mono ?_);(case side1 => repeat (first|exact (Kd.C_below HR0_0.out HB.out)|(with_reducible refine Kd.C_alloc ?_ _)|(with_reducible refine Kd.C_drewN ?_ _)|(with_reducible refine Kd.C_drew ?_)));(case side2 => exact HC0_0.out);rintro e w24 ⟨rfl, hb⟩;refine ⟨_, rfl, ?_⟩;have n0_ := Aside0.mk (blk_below (g := gb161) (o := .cells #[.slice A0_0 l0_0.length c0_0] 24 (0, 0)) (by (with_reducible repeat first|apply bN|apply bD|apply bA);exact BK161.out) hb);have n1_ := Aside0.mk (blk_below (g := gb162) (o := .cells #[.int .i64 0, .int .i64 0] 27 (0, 0)) (by (with_reducible repeat first|apply bN|apply bD|apply bA);exact BK162.out) hb);have n2_ := Aside0.mk (below_step (by repeat (first|(with_reducible first|exact HB.out|apply eA|apply eN|apply eD|refine below_set ?_ GE161.out|refine below_set ?_ GE162.out)|exact HB.out)) hb);clear BK161;clear BK162;clear HB;have BK161 := n0_;have BK162 := n1_;have HB := n2_;clear n0_ n1_ n2_;(try clear hb);(try clear hb2);(try clear hk);(try clear hi))|((with_reducible refine gate_dst (N := 6) rfl ?_);refine box_event ?hg (N := 6) ?hd (cs := #[.int .i64 0, .int .i64 0]) (t := 27) ?hr ?_;(case hd => rfl);(case hg => rfl);(case hr => first|(go_simp;done)|(go_simp;rfl));intro gb165 hg w25 hbox hb;have n0_ := Aside0.mk (blk_below (g := gb161) (o := .cells #[.slice A0_0 l0_0.length c0_0] 24 (0, 0)) (by (with_reducible repeat first|apply bN|apply bD|apply bA);exact BK161.out) hb);have n1_ := Aside0.mk (blk_below (g := gb162) (o := .cells #[.int .i64 0, .int .i64 0] 27 (0, 0)) (by (with_reducible repeat first|apply bN|apply bD|apply bA);exact BK162.out) hb);have n2_ := Aside0.mk (below_step (by repeat (first|(with_reducible first|exact HB.out|apply eA|apply eN|apply eD|refine below_set ?_ GE161.out|refine below_set ?_ GE162.out)|exact HB.out)) hb);have n3_ := Aside0.mk (hbox);have n4_ := Aside0.mk ((by rw [hg];exact (below_size (by repeat (first|(with_reducible first|exact HB.out|apply eA|apply eN|apply eD|refine below_set ?_ GE161.out|refine below_set ?_ GE162.out)|exact HB.out))) : w.heap.size ≤ gb165));have n5_ := Aside0.mk ((by rw [hg];exact (below_size (by repeat (first|(with_reducible first|exact HB.out|apply eA|apply eN|apply eD|refine below_set ?_ GE161.out|refine below_set ?_ GE162.out)|exact HB.out))) : w.heap.size ≤ gb165));have n6_ := Aside0.mk ((by rw [hg];exact Nat.ne_of_lt (blk_lt (g := gb161) (o := .cells #[.slice A0_0 l0_0.length c0_0] 24 (0, 0)) (by (with_reducible repeat first|apply bN|apply bD|apply bA);exact BK161.out)) : gb161 ≠ gb165));have n7_ := Aside0.mk ((by rw [hg];exact Nat.ne_of_gt (blk_lt (g := gb161) (o := .cells #[.slice A0_0 l0_0.length c0_0] 24 (0, 0)) (by (with_reducible repeat first|apply bN|apply bD|apply bA);exact BK161.out)) : gb165 ≠ gb161));have n8_ := Aside0.mk ((by rw [hg];exact Nat.ne_of_lt (blk_lt (g := gb162) (o := .cells #[.int .i64 0, .int .i64 0] 27 (0, 0)) (by (with_reducible repeat first|apply bN|apply bD|apply bA);exact BK162.out)) : gb162 ≠ gb165));have n9_ := Aside0.mk ((by rw [hg];exact Nat.ne_of_gt (blk_lt (g := gb162) (o := .cells #[.int .i64 0, .int .i64 0] 27 (0, 0)) (by (with_reducible repeat first|apply bN|apply bD|apply bA);exact BK162.out)) : gb165 ≠ gb162));clear BK161;clear BK162;clear HB;have BK161 := n0_;have BK162 := n1_;have HB := n2_;have BK165 := n3_;have GW165 := n4_;have GE165 := n5_;have NB161_165 := n6_;have NB165_161 := n7_;have NB162_165 := n8_;have NB165_162 := n9_;clear n0_ n1_ n2_ n3_ n4_ n5_ n6_ n7_ n8_ n9_;clear hb hbox hg;have hnb26 := NB165_161.out;have hnc26 := NB161_165.out;have hnb27 := NB165_162.out;have hnc27 := NB162_165.out;have hcz28_0 : w25.cell? ⟨gb165, 0, none⟩ = some (.int .i64 0) := (blk_cell BK165.out 0).trans rfl;have hcz28_1 : w25.cell? ⟨gb165, 1, none⟩ = some (.int .i64 0) := (blk_cell BK165.out 1).trans rfl;have hfz28_0 := blk_frozen BK165.out 0;have hfz28_1 := blk_frozen BK165.out 1)|((with_reducible refine gate_callee (f := 32) rfl ?_);refine goesL_ (some 19) rfl rfl Try.func32 (by kernel_rfl) rfl #[.slice A1 l1.length c1] rfl (by (try simp only [List.map_toArray, List.map_cons, List.map_nil]);first|done|rfl|(simp only [List.length_drop, List.length_take];rfl)) ?_;(with_reducible refine (lines_Code.calls _ _ l1 t166 _ ?side1 ?side2 A18.out).mono ?_);(case side1 => exact Kd.C_below HR1.out (by repeat (first|(with_reducible first|exact HB.out|apply eA|apply eN|apply eD|refine below_set ?_ GE161.out|refine below_set ?_ GE162.out|refine below_set ?_ GE165.out)|exact HB.out)));(case side2 => exact HC1.out);rintro e w29 ⟨rfl, hb⟩;refine ⟨_, rfl, ?_⟩;have n0_ := Aside0.mk (blk_below (g := gb161) (o := .cells #[.slice A0_0 l0_0.length c0_0] 24 (0, 0)) (by (with_reducible repeat first|apply bN|apply bD|apply bA);refine blk_far ?_ NB161_165.out _;(with_reducible repeat first|apply bN|apply bD|apply bA);refine blk_far ?_ NB161_165.out _;(with_reducible repeat first|apply bN|apply bD|apply bA);exact BK161.out) hb);have n1_ := Aside0.mk (blk_below (g := gb162) (o := .cells #[.int .i64 0, .int .i64 0] 27 (0, 0)) (by (with_reducible repeat first|apply bN|apply bD|apply bA);refine blk_far ?_ NB162_165.out _;(with_reducible repeat first|apply bN|apply bD|apply bA);refine blk_far ?_ NB162_165.out _;(with_reducible repeat first|apply bN|apply bD|apply bA);exact BK162.out) hb);have n2_ := Aside0.mk (blk_below (g := gb165) (o := .cells #[.int .i64 t163, .int .i64 t164] 27 (0, 0)) (by (with_reducible repeat first|apply bN|apply bD|apply bA);refine blk_put (cs := #[.int .i64 t163, .int .i64 0]) ?_ 1 _ rfl;(with_reducible repeat first|apply bN|apply bD|apply bA);refine blk_put (cs := #[.int .i64 0, .int .i64 0]) ?_ 0 _ rfl;(with_reducible repeat first|apply bN|apply bD|apply bA);exact BK165.out) hb);have n3_ := Aside0.mk (below_step (by repeat (first|(with_reducible first|exact HB.out|apply eA|apply eN|apply eD|refine below_set ?_ GE161.out|refine below_set ?_ GE162.out|refine below_set ?_ GE165.out)|exact HB.out)) hb);clear BK161;clear BK162;clear BK165;clear HB;have BK161 := n0_;have BK162 := n1_;have BK165 := n2_;have HB := n3_;clear n0_ n1_ n2_ n3_;(try clear hb);(try clear hb2);(try clear hk);(try clear hi);have hcz30_0 : w29.cell? ⟨gb161, 0, none⟩ = some (.slice A0_0 l0_0.length c0_0) := (blk_cell BK161.out 0).trans rfl;have hfz30_0 := blk_frozen BK161.out 0))
      go_loopg [8, 9, 27] k (fun kq v8 v9 v27 w' => ∃ (x8_1 : List ByteArray) (x9_1 : Int) (x27_1 : Int) (x163000_1 : Int) (x163001_1 : Int), v9 = .int .i64 x9_1 ∧ v27 = .int .i64 x27_1 ∧ Aside0 (textpatch_Apply_0.l0 kq l1 x8_1 x9_1 l0_0 (l0_0.length : Int) x27_1 = some (r1, r2, r3)) ∧ Aside0 (kq ≤ k) ∧ Aside0 (Kd.R Kd.string 9 w' w.heap.size (fun _ => True) v8 x8_1) ∧ Aside0 (w'.heap[gb161]? = some (.cells #[(.slice A0_0 l0_0.length c0_0)] 24 (0, 0))) ∧ Aside0 (w'.heap[gb162]? = some (.cells #[.int .i64 x163000_1, .int .i64 x163001_1] 27 (0, 0))) ∧ Aside0 (w'.heap[gb165]? = some (.cells #[.int .i64 t163, .int .i64 t164] 27 (0, 0))) ∧ Aside0 (Below w.heap.size w w'))
      case atStart => exact ⟨(([] : List ByteArray)), (0), (0), (0), (0), (by first|rfl|(simp;done)|(simp [*];done)), (by first|rfl|(simp;done)|(simp [*];done)), H', ⟨Nat.le_refl _⟩, ⟨by first|exact Kd.R_nil _ _ _ _ _|exact Kd.N_nil _ _ _ _ _|exact Kd.V_nil _ _ _ _ _|exact Kd.Q_nil _ _ _ _ _|exact Kd.S_nil _ _ _ _ _⟩, ⟨by (with_reducible repeat first|apply bN|apply bD|apply bA);exact BK161.out⟩, ⟨by (with_reducible repeat first|apply bN|apply bD|apply bA);exact BK162.out⟩, ⟨by (with_reducible repeat first|apply bN|apply bD|apply bA);exact BK165.out⟩, ⟨by repeat (first|(with_reducible first|exact HB.out|apply eA|apply eN|apply eD|refine below_set ?_ GE161.out|refine below_set ?_ GE162.out|refine below_set ?_ GE165.out)|exact HB.out)⟩⟩
      case round =>
        clear H'
        try clear c1
        try clear c2
        try clear p2
        try clear c3
        try clear c4
        try clear c4b0
        try clear c7
        try clear c11
        try clear c12
        try clear c15
        try clear c19
        try clear c19b0
        try clear c19b1
        try clear c22
        try clear c26
        try clear c27
        try clear hcz13_0
        try clear hcz13_1
        try clear hcz23_0
        try clear hcz28_0
        try clear hcz28_1
        try clear hcz30_0
        try clear hcz8_0
        try clear hfz13_0
        try clear hfz13_1
        try clear hfz23_0
        try clear hfz28_0
        try clear hfz28_1
        try clear hfz30_0
        try clear hfz8_0
        obtain ⟨x8_1, x9_1, x27_1, x163000_1, x163001_1, rfl, rfl, HA, HK1, HO_8, BK161, BK162, BK165, HB⟩ := hrel
        cases gk with
        | zero => exact absurd HA.out (by simp [textpatch_Apply_0.l0])
        | succ k1 =>
          have H := HA.out
          clear HA
          simp only [textpatch_Apply_0.l0] at H
          by_cases c31 : x27_1 < (l0_0.length : Int)
          · rw [if_pos c31] at H
            have c31b0 : decide (x27_1 < (l0_0.length : Int)) = true := decide_eq_true c31
            clear c31
            by_cases c32 : 0 ≤ x27_1
            · rw [if_pos c32] at H
              have c32b0 : decide (0 ≤ x27_1) = true := decide_eq_true c32
              clear c32
              by_cases c33 : x27_1 < (l0_0.length : Int)
              · rw [if_pos c33] at H
                have c33b0 : decide (x27_1 < (l0_0.length : Int)) = true := decide_eq_true c33
                clear c33
                replace H := Option.bind_eq_some_iff.mp H
                obtain ⟨t173, A340, H⟩ := H
                replace H : (if t173 > (l1.length : Int) then (some (([] : List ByteArray), 19, x27_1)) else ((textpatch_End.f ((rd_T47 l0_0 x27_1).f0) ((rd_T47 l0_0 x27_1).f1) ((rd_T47 l0_0 x27_1).f2)).bind fun t174 => (if 0 ≤ ((rd_T47 l0_0 x27_1).f0) then (if ((rd_T47 l0_0 x27_1).f0) ≤ t174 then (if t174 ≤ (l1.length : Int) then ((slices_Equal_string_string.f ((l1.take (t174 : Int).toNat).drop (((rd_T47 l0_0 x27_1).f0) : Int).toNat) ((rd_T47 l0_0 x27_1).f1)).bind fun t176 => (if t176 = true then (if 0 ≤ x9_1 then (if x9_1 ≤ ((rd_T47 l0_0 x27_1).f0) then (if ((rd_T47 l0_0 x27_1).f0) ≤ (l1.length : Int) then (if x8_1.length + ((l1.take (((rd_T47 l0_0 x27_1).f0) : Int).toNat).drop (x9_1 : Int).toNat).length < 8796093022208 then ((some (x8_1 ++ ((l1.take (((rd_T47 l0_0 x27_1).f0) : Int).toNat).drop (x9_1 : Int).toNat) : List ByteArray)).bind fun y178 => (if y178.length + ((rd_T47 l0_0 x27_1).f2).length < 8796093022208 then ((textpatch_End.f ((rd_T47 l0_0 x27_1).f0) ((rd_T47 l0_0 x27_1).f1) ((rd_T47 l0_0 x27_1).f2)).bind fun t184 => (textpatch_Apply_0.l0 k1 l1 (y178 ++ ((rd_T47 l0_0 x27_1).f2)) t184 l0_0 (l0_0.length : Int) (wrap64 (x27_1 + 1)))) else (none))) else (none)) else (none)) else (none)) else (none)) else (some (([] : List ByteArray), 19, x27_1)))) else (none)) else (none)) else (none)))) = some (r1, r2, r3) := H
                have A34 := Aside0.mk A340
                clear A340
                by_cases c35 : t173 > (l1.length : Int)
                · rw [if_pos c35] at H
                  have c35b0 : decide ((l1.length : Int) < t173) = true := decide_eq_true c35
                  clear c35
                  simp only [Option.some.injEq, Prod.mk.injEq] at H
                  obtain ⟨rfl, rfl, rfl⟩ := H
                  have p171 : 0 ≤ (x27_1 : Int) := of_decide_eq_true (by first|(with_reducible assumption)|assumption)
                  have q171 : x27_1 < (l0_0.length : Int) := of_decide_eq_true (by first|(with_reducible assumption)|assumption)
                  obtain ⟨ad171, A171_1, c171_1, A171_2, c171_2, e171, hx171_0, hx171_1, hx171_2, hl171_1, hi171_1, hl171_2, hi171_2⟩ := at_T47 HR0_0.out x27_1 p171 q171
                  cases e171
                  replace hx171_0 := (HB.out.cell (World.block_lt_of_cell? w _ hx171_0)).trans hx171_0
                  replace hx171_1 := (HB.out.cell (World.block_lt_of_cell? w _ hx171_1)).trans hx171_1
                  replace hx171_2 := (HB.out.cell (World.block_lt_of_cell? w _ hx171_2)).trans hx171_2
                  have HR171_1 := Aside0.mk hi171_1
                  have HC171_1 := Aside0.mk hl171_1
                  clear hi171_1 hl171_1
                  have HR171_2 := Aside0.mk hi171_2
                  have HC171_2 := Aside0.mk hl171_2
                  clear hi171_2 hl171_2
                  replace p171 := eq_true p171
                  replace q171 := eq_true q171
                  try go_wp2_with (first|((with_reducible refine gate_dst (N := 11) rfl ?_);refine box_event ?hg (N := 11) ?hd (cs := #[.int .i64 0, .slice none 0 0, .slice none 0 0]) (t := 47) ?hr ?_;(case hd => rfl);(case hg => rfl);(case hr => first|(go_simp;done)|(go_simp;rfl));intro gb172 hg w36 hbox hb;have n0_ := Aside0.mk (Kd.R_below (by (with_reducible repeat first|apply rA|apply rN|apply rD);exact HO_8.out) hb);have n1_ := Aside0.mk (blk_below (g := gb161) (o := .cells #[.slice (some ad171) l0_0.length c0_0] 24 (0, 0)) (by (with_reducible repeat first|apply bN|apply bD|apply bA);exact BK161.out) hb);have n2_ := Aside0.mk (blk_below (g := gb162) (o := .cells #[.int .i64 x163000_1, .int .i64 x163001_1] 27 (0, 0)) (by (with_reducible repeat first|apply bN|apply bD|apply bA);exact BK162.out) hb);have n3_ := Aside0.mk (blk_below (g := gb165) (o := .cells #[.int .i64 t163, .int .i64 t164] 27 (0, 0)) (by (with_reducible repeat first|apply bN|apply bD|apply bA);exact BK165.out) hb);have n4_ := Aside0.mk (below_step (by repeat (first|(with_reducible first|exact HB.out|apply eA|apply eN|apply eD|refine below_set ?_ GE161.out|refine below_set ?_ GE162.out|refine below_set ?_ GE165.out)|exact HB.out)) hb);have n5_ := Aside0.mk (hbox);have n6_ := Aside0.mk ((by rw [hg];exact (below_size (by repeat (first|(with_reducible first|exact HB.out|apply eA|apply eN|apply eD|refine below_set ?_ GE161.out|refine below_set ?_ GE162.out|refine below_set ?_ GE165.out)|exact HB.out))) : w.heap.size ≤ gb172));have n7_ := Aside0.mk ((by rw [hg];exact (below_size (by repeat (first|(with_reducible first|exact HB.out|apply eA|apply eN|apply eD|refine below_set ?_ GE161.out|refine below_set ?_ GE162.out|refine below_set ?_ GE165.out)|exact HB.out))) : w.heap.size ≤ gb172));have n8_ := Aside0.mk ((by rw [hg];exact Nat.ne_of_lt (blk_lt (g := gb161) (o := .cells #[.slice (some ad171) l0_0.length c0_0] 24 (0, 0)) (by (with_reducible repeat first|apply bN|apply bD|apply bA);exact BK161.out)) : gb161 ≠ gb172));have n9_ := Aside0.mk ((by rw [hg];exact Nat.ne_of_gt (blk_lt (g := gb161) (o := .cells #[.slice (some ad171) l0_0.length c0_0] 24 (0, 0)) (by (with_reducible repeat first|apply bN|apply bD|apply bA);exact BK161.out)) : gb172 ≠ gb161));have n10_ := Aside0.mk ((by rw [hg];exact Nat.ne_of_lt (blk_lt (g := gb162) (o := .cells #[.int .i64 x163000_1, .int .i64 x163001_1] 27 (0, 0)) (by (with_reducible repeat first|apply bN|apply bD|apply bA);exact BK162.out)) : gb162 ≠ gb172));have n11_ := Aside0.mk ((by rw [hg];exact Nat.ne_of_gt (blk_lt (g := gb162) (o := .cells #[.int .i64 x163000_1, .int .i64 x163001_1] 27 (0, 0)) (by (with_reducible repeat first|apply bN|apply bD|apply bA);exact BK162.out)) : gb172 ≠ gb162));have n12_ := Aside0.mk ((by rw [hg];exact Nat.ne_of_lt (blk_lt (g := gb165) (o := .cells #[.int .i64 t163, .int .i64 t164] 27 (0, 0)) (by (with_reducible repeat first|apply bN|apply bD|apply bA);exact BK165.out)) : gb165 ≠ gb172));have n13_ := Aside0.mk ((by rw [hg];exact Nat.ne_of_gt (blk_lt (g := gb165) (o := .cells #[.int .i64 t163, .int .i64 t164] 27 (0, 0)) (by (with_reducible repeat first|apply bN|apply bD|apply bA);exact BK165.out)) : gb172 ≠ gb165));clear HO_8;clear BK161;clear BK162;clear BK165;clear HB;have HO_8 := n0_;have BK161 := n1_;have BK162 := n2_;have BK165 := n3_;have HB := n4_;have BK172 := n5_;have GW172 := n6_;have GE172 := n7_;have NB161_172 := n8_;have NB172_161 := n9_;have NB162_172 := n10_;have NB172_162 := n11_;have NB165_172 := n12_;have NB172_165 := n13_;clear n0_ n1_ n2_ n3_ n4_ n5_ n6_ n7_ n8_ n9_ n10_ n11_ n12_ n13_;clear hb hbox hg;have hnb37 := NB172_161.out;have hnc37 := NB161_172.out;have hnb38 := NB172_162.out;have hnc38 := NB162_172.out;have hnb39 := NB172_165.out;have hnc39 := NB165_172.out;have hcz40_0 : w36.cell? ⟨gb172, 0, none⟩ = some (.int .i64 0) := (blk_cell BK172.out 0).trans rfl;have hcz40_1 : w36.cell? ⟨gb172, 1, none⟩ = some (.slice none 0 0) := (blk_cell BK172.out 1).trans rfl;have hcz40_2 : w36.cell? ⟨gb172, 2, none⟩ = some (.slice none 0 0) := (blk_cell BK172.out 2).trans rfl;have hfz40_0 := blk_frozen BK172.out 0;have hfz40_1 := blk_frozen BK172.out 1;have hfz40_2 := blk_frozen BK172.out 2))
                  have n0_ : Aside0 (Kd.R Kd.string 9 (((w36.setCell ⟨gb172, 0, none⟩ (.int .i64 ((rd_T47 l0_0 x27_1).f0))).setCell ⟨gb172, 1, none⟩ (.slice A171_1 ((rd_T47 l0_0 x27_1).f1).length c171_1)).setCell ⟨gb172, 2, none⟩ (.slice A171_2 ((rd_T47 l0_0 x27_1).f2).length c171_2)) w.heap.size (fun _ => True) u8 x8_1) := ⟨by (with_reducible repeat first|apply rA|apply rN|apply rD);exact Kd.R_mono (Kd.R_far (p := ⟨gb172, 2, none⟩) (Kd.R_far (p := ⟨gb172, 1, none⟩) (Kd.R_far (p := ⟨gb172, 0, none⟩) (Kd.R_types HO_8.out BK172.out (by decide)) (fun _ hk => hk.2) (.int .i64 ((rd_T47 l0_0 x27_1).f0))) (fun _ hk => hk.2) (.slice A171_1 ((rd_T47 l0_0 x27_1).f1).length c171_1)) (fun _ hk => hk.2) (.slice A171_2 ((rd_T47 l0_0 x27_1).f2).length c171_2)) (fun _ hk => trivial)⟩
                  have n1_ : Aside0 ((((w36.setCell ⟨gb172, 0, none⟩ (.int .i64 ((rd_T47 l0_0 x27_1).f0))).setCell ⟨gb172, 1, none⟩ (.slice A171_1 ((rd_T47 l0_0 x27_1).f1).length c171_1)).setCell ⟨gb172, 2, none⟩ (.slice A171_2 ((rd_T47 l0_0 x27_1).f2).length c171_2)).heap[gb161]? = some (.cells #[.slice (some ad171) l0_0.length c0_0] 24 (0, 0))) := ⟨by (with_reducible repeat first|apply bN|apply bD|apply bA);refine blk_far ?_ NB161_172.out _;(with_reducible repeat first|apply bN|apply bD|apply bA);refine blk_far ?_ NB161_172.out _;(with_reducible repeat first|apply bN|apply bD|apply bA);refine blk_far ?_ NB161_172.out _;(with_reducible repeat first|apply bN|apply bD|apply bA);exact BK161.out⟩
                  have n2_ : Aside0 ((((w36.setCell ⟨gb172, 0, none⟩ (.int .i64 ((rd_T47 l0_0 x27_1).f0))).setCell ⟨gb172, 1, none⟩ (.slice A171_1 ((rd_T47 l0_0 x27_1).f1).length c171_1)).setCell ⟨gb172, 2, none⟩ (.slice A171_2 ((rd_T47 l0_0 x27_1).f2).length c171_2)).heap[gb162]? = some (.cells #[.int .i64 x163000_1, .int .i64 x163001_1] 27 (0, 0))) := ⟨by (with_reducible repeat first|apply bN|apply bD|apply bA);refine blk_far ?_ NB162_172.out _;(with_reducible repeat first|apply bN|apply bD|apply bA);refine blk_far ?_ NB162_172.out _;(with_reducible repeat first|apply bN|apply bD|apply bA);refine blk_far ?_ NB162_172.out _;(with_reducible repeat first|apply bN|apply bD|apply bA);exact BK162.out⟩
                  have n3_ : Aside0 ((((w36.setCell ⟨gb172, 0, none⟩ (.int .i64 ((rd_T47 l0_0 x27_1).f0))).setCell ⟨gb172, 1, none⟩ (.slice A171_1 ((rd_T47 l0_0 x27_1).f1).length c171_1)).setCell ⟨gb172, 2, none⟩ (.slice A171_2 ((rd_T47 l0_0 x27_1).f2).length c171_2)).heap[gb165]? = some (.cells #[.int .i64 t163, .int .i64 t164] 27 (0, 0))) := ⟨by (with_reducible repeat first|apply bN|apply bD|apply bA);refine blk_far ?_ NB165_172.out _;(with_reducible repeat first|apply bN|apply bD|apply bA);refine blk_far ?_ NB165_172.out _;(with_reducible repeat first|apply bN|apply bD|apply bA);refine blk_far ?_ NB165_172.out _;(with_reducible repeat first|apply bN|apply bD|apply bA);exact BK165.out⟩
                  have n4_ : Aside0 ((((w36.setCell ⟨gb172, 0, none⟩ (.int .i64 ((rd_T47 l0_0 x27_1).f0))).setCell ⟨gb172, 1, none⟩ (.slice A171_1 ((rd_T47 l0_0 x27_1).f1).length c171_1)).setCell ⟨gb172, 2, none⟩ (.slice A171_2 ((rd_T47 l0_0 x27_1).f2).length c171_2)).heap[gb172]? = some (.cells #[.int .i64 ((rd_T47 l0_0 x27_1).f0), .slice A171_1 ((rd_T47 l0_0 x27_1).f1).length c171_1, .slice A171_2 ((rd_T47 l0_0 x27_1).f2).length c171_2] 47 (0, 0))) := ⟨by (with_reducible repeat first|apply bN|apply bD|apply bA);refine blk_put (cs := #[.int .i64 ((rd_T47 l0_0 x27_1).f0), .slice A171_1 ((rd_T47 l0_0 x27_1).f1).length c171_1, .slice none 0 0]) ?_ 2 _ rfl;(with_reducible repeat first|apply bN|apply bD|apply bA);refine blk_put (cs := #[.int .i64 ((rd_T47 l0_0 x27_1).f0), .slice none 0 0, .slice none 0 0]) ?_ 1 _ rfl;(with_reducible repeat first|apply bN|apply bD|apply bA);refine blk_put (cs := #[.int .i64 0, .slice none 0 0, .slice none 0 0]) ?_ 0 _ rfl;(with_reducible repeat first|apply bN|apply bD|apply bA);exact BK172.out⟩
                  have n5_ : Aside0 (Below w.heap.size w (((w36.setCell ⟨gb172, 0, none⟩ (.int .i64 ((rd_T47 l0_0 x27_1).f0))).setCell ⟨gb172, 1, none⟩ (.slice A171_1 ((rd_T47 l0_0 x27_1).f1).length c171_1)).setCell ⟨gb172, 2, none⟩ (.slice A171_2 ((rd_T47 l0_0 x27_1).f2).length c171_2))) := ⟨by repeat (first|(with_reducible first|exact HB.out|apply eA|apply eN|apply eD|refine below_set ?_ GE161.out|refine below_set ?_ GE162.out|refine below_set ?_ GE165.out|refine below_set ?_ GE172.out)|exact HB.out)⟩
                  (try clear HO_8)
                  (try clear BK161)
                  (try clear BK162)
                  (try clear BK165)
                  (try clear BK172)
                  (try clear HB)
                  generalize (((w36.setCell ⟨gb172, 0, none⟩ (.int .i64 ((rd_T47 l0_0 x27_1).f0))).setCell ⟨gb172, 1, none⟩ (.slice A171_1 ((rd_T47 l0_0 x27_1).f1).length c171_1)).setCell ⟨gb172, 2, none⟩ (.slice A171_2 ((rd_T47 l0_0 x27_1).f2).length c171_2)) = w41 at n0_ n1_ n2_ n3_ n4_ n5_ ⊢
                  have HO_8 := n0_
                  have BK161 := n1_
                  have BK162 := n2_
                  have BK165 := n3_
                  have BK172 := n4_
                  have HB := n5_
                  clear n0_ n1_ n2_ n3_ n4_ n5_
                  have n0_ := Aside0.mk (Kd.R_drew HO_8.out)
                  have n1_ := Aside0.mk (blk_drew BK161.out)
                  have n2_ := Aside0.mk (blk_drew BK162.out)
                  have n3_ := Aside0.mk (blk_drew BK165.out)
                  have n4_ := Aside0.mk (blk_drew BK172.out)
                  have n5_ := Aside0.mk (below_drew1 HB.out)
                  clear HO_8
                  clear BK161
                  clear BK162
                  clear BK165
                  clear BK172
                  clear HB
                  have HO_8 := n0_
                  have BK161 := n1_
                  have BK162 := n2_
                  have BK165 := n3_
                  have BK172 := n4_
                  have HB := n5_
                  clear n0_ n1_ n2_ n3_ n4_ n5_
                  refine start_ (n := 17) (S := fun w' => w'.cell? ⟨gb172, 0, none⟩ = some (.int .i64 ((rd_T47 l0_0 x27_1).f0)) ∧ w'.cell? ⟨gb172, 1, none⟩ = some (.slice A171_1 ((rd_T47 l0_0 x27_1).f1).length c171_1) ∧ w'.cell? ⟨gb172, 2, none⟩ = some (.slice A171_2 ((rd_T47 l0_0 x27_1).f2).length c171_2)) (ds := []) #[false, false, false, false, false, false, false, false, false, false, false, false, false, false, false, false, false] (by kernel_rfl) rfl rfl ⟨(blk_cell BK172.out 0).trans rfl, (blk_cell BK172.out 1).trans rfl, (blk_cell BK172.out 2).trans rfl⟩ (fun hHeld => ?_);refine with_tabW textpatch_Apply_0.tab12 textpatch_Apply_0.bits12 (fun HT_ HW_ => ?_)
                  generalize w41.drew = w42 at HO_8 BK161 BK162 BK165 BK172 HB hHeld ⊢
                  refine pure_ (i := 2) (N := some 34) (v := ?_) (a' := ?_) #[false, false, true, false, false, false, false, false, false, false, false, false, false, false, false, false, false] rfl rfl (any_of HT_.out (by kernel_rfl)) (fun _ _ _ h => h) (Or.inl ⟨by rfl, ?_⟩) ?_ ?_
                  rotate_left
                  · intro w'
                    go_simp
                    with_reducible rfl
                  rotate_left
                  · simp only [Act.put, sA, sB, sC, i64_w, i32_w]
                    rfl
                  refine pure_ (i := 3) (N := some 35) (v := ?_) (a' := ?_) #[false, false, true, true, false, false, false, false, false, false, false, false, false, false, false, false, false] rfl rfl (any_of HT_.out (by kernel_rfl)) (fun _ _ _ h => h) (Or.inl ⟨by rfl, ?_⟩) ?_ ?_
                  rotate_left
                  · intro w'
                    go_simp
                    with_reducible rfl
                  rotate_left
                  · simp only [Act.put, sA, sB, sC, i64_w, i32_w]
                    rfl
                  refine take_ (i := 0) (N := some 32) (v := ?_) (a' := ?_) #[true, false, true, true, false, false, false, false, false, false, false, false, false, false, false, false, false] rfl rfl (take_ofW HT_.out HW_.out (by kernel_rfl)) (fun _ _ _ h => h) (Or.inl ⟨by rfl, ?_⟩) hHeld ?_ ?_
                  rotate_left
                  · rintro w' ⟨s0, s1, s2⟩
                    go_simp
                    with_reducible rfl
                  rotate_left
                  · simp only [Act.put, sA, sB, sC, i64_w, i32_w]
                    rfl
                  refine one_ (i := 1) (N := some 33) #[true, true, true, true, false, false, false, false, false, false, false, false, false, false, false, false, false] rfl rfl (one_of HT_.out (by kernel_rfl)) (by decide) (fun K hK => ?_)
                  refine goes_ Try.func33 (by kernel_rfl) rfl #[.agg #[.int .i64 ((rd_T47 l0_0 x27_1).f0), .slice A171_1 ((rd_T47 l0_0 x27_1).f1).length c171_1, .slice A171_2 ((rd_T47 l0_0 x27_1).f2).length c171_2]] (by rfl) rfl rfl (by (try simp only [List.map_toArray, List.map_cons, List.map_nil]);first|done|rfl|(simp only [List.length_drop, List.length_take];rfl)) ?_
                  with_reducible refine (textpatch_End.calls ((rd_T47 l0_0 x27_1).f0) _ _ ((rd_T47 l0_0 x27_1).f1) _ _ ((rd_T47 l0_0 x27_1).f2) t173 _ ?side1 ?side2 ?side3 ?side4 A34.out).mono ?_
                  (case side1 => repeat (first|exact (Kd.C_below HR171_1.out HB.out)|(with_reducible refine Kd.C_alloc ?_ _)|(with_reducible refine Kd.C_drewN ?_ _)|(with_reducible refine Kd.C_drew ?_)))
                  (case side2 => exact HC171_1.out)
                  (case side3 => repeat (first|exact (Kd.C_below HR171_2.out HB.out)|(with_reducible refine Kd.C_alloc ?_ _)|(with_reducible refine Kd.C_drewN ?_ _)|(with_reducible refine Kd.C_drew ?_)))
                  (case side4 => exact HC171_2.out)
                  rintro e w43 ⟨rfl, hb⟩
                  refine ⟨_, rfl, ?_⟩
                  have n0_ := Aside0.mk (Kd.R_below (by (with_reducible repeat first|apply rA|apply rN|apply rD);exact HO_8.out) hb)
                  have n1_ := Aside0.mk (blk_below (g := gb161) (o := .cells #[.slice (some ad171) l0_0.length c0_0] 24 (0, 0)) (by (with_reducible repeat first|apply bN|apply bD|apply bA);exact BK161.out) hb)
                  have n2_ := Aside0.mk (blk_below (g := gb162) (o := .cells #[.int .i64 x163000_1, .int .i64 x163001_1] 27 (0, 0)) (by (with_reducible repeat first|apply bN|apply bD|apply bA);exact BK162.out) hb)
                  have n3_ := Aside0.mk (blk_below (g := gb165) (o := .cells #[.int .i64 t163, .int .i64 t164] 27 (0, 0)) (by (with_reducible repeat first|apply bN|apply bD|apply bA);exact BK165.out) hb)
                  have n4_ := Aside0.mk (blk_below (g := gb172) (o := .cells #[.int .i64 ((rd_T47 l0_0 x27_1).f0), .slice A171_1 ((rd_T47 l0_0 x27_1).f1).length c171_1, .slice A171_2 ((rd_T47 l0_0 x27_1).f2).length c171_2] 47 (0, 0)) (by (with_reducible repeat first|apply bN|apply bD|apply bA);exact BK172.out) hb)
                  have n5_ := Aside0.mk (below_step (by repeat (first|(with_reducible first|exact HB.out|apply eA|apply eN|apply eD|refine below_set ?_ GE161.out|refine below_set ?_ GE162.out|refine below_set ?_ GE165.out|refine below_set ?_ GE172.out)|exact HB.out)) hb)
                  clear HO_8
                  clear BK161
                  clear BK162
                  clear BK165
                  clear BK172
                  clear HB
                  have HO_8 := n0_
                  have BK161 := n1_
                  have BK162 := n2_
                  have BK165 := n3_
                  have BK172 := n4_
                  have HB := n5_
                  clear n0_ n1_ n2_ n3_ n4_ n5_
                  (try clear hb)
                  (try clear hb2)
                  (try clear hk)
                  (try clear hi)
                  refine hK.out _ _ ⟨(blk_cell BK172.out 0).trans rfl, (blk_cell BK172.out 1).trans rfl, (blk_cell BK172.out 2).trans rfl⟩ (fun hHeld => ?_)
                  clear hK K
                  refine norm_ (a' := ?_) ?_ ?_
                  rotate_left
                  · show Act.put _ (some 33) _ = _
                    simp only [Act.put, sA, sB, sC, i64_w, i32_w]
                    rfl
                  refine pure_ (i := 4) (N := some 36) (v := ?_) (a' := ?_) #[true, true, true, true, true, false, false, false, false, false, false, false, false, false, false, false, false] rfl rfl (any_of HT_.out (by kernel_rfl)) (fun _ _ _ h => h) (Or.inl ⟨by rfl, ?_⟩) ?_ ?_
                  rotate_left
                  · intro w'
                    go_simp
                    with_reducible rfl
                  rotate_left
                  · simp only [Act.put, sA, sB, sC, i64_w, i32_w]
                    rfl
                  refine pure_ (i := 5) (N := some 37) (v := ?_) (a' := ?_) #[true, true, true, true, true, true, false, false, false, false, false, false, false, false, false, false, false] rfl rfl (any_of HT_.out (by kernel_rfl)) (fun _ _ _ h => h) (Or.inl ⟨by rfl, ?_⟩) ?_ ?_
                  rotate_left
                  · intro w'
                    go_simp
                    with_reducible rfl
                  rotate_left
                  · simp only [Act.put, sA, sB, sC, i64_w, i32_w]
                    rfl
                  refine pure_ (i := 6) (N := some 38) (v := undef) (a' := ?_) #[true, true, true, true, true, true, true, false, false, false, false, false, false, false, false, false, false] rfl rfl (any_of HT_.out (by kernel_rfl)) (fun _ _ _ h => h) (Or.inr ⟨by rfl, rfl⟩) ?_ ?_
                  rotate_left
                  · simp only [Act.put, sA, sB, sC, i64_w, i32_w]
                    rfl
                  refine pure_ (i := 7) (N := some 39) (v := undef) (a' := ?_) #[true, true, true, true, true, true, true, true, false, false, false, false, false, false, false, false, false] rfl rfl (any_of HT_.out (by kernel_rfl)) (fun _ _ _ h => h) (Or.inr ⟨by rfl, rfl⟩) ?_ ?_
                  rotate_left
                  · simp only [Act.put, sA, sB, sC, i64_w, i32_w]
                    rfl
                  refine pure_ (i := 8) (N := some 40) (v := undef) (a' := ?_) #[true, true, true, true, true, true, true, true, true, false, false, false, false, false, false, false, false] rfl rfl (any_of HT_.out (by kernel_rfl)) (fun _ _ _ h => h) (Or.inr ⟨by rfl, rfl⟩) ?_ ?_
                  rotate_left
                  · simp only [Act.put, sA, sB, sC, i64_w, i32_w]
                    rfl
                  refine pure_ (i := 9) (N := some 41) (v := undef) (a' := ?_) #[true, true, true, true, true, true, true, true, true, true, false, false, false, false, false, false, false] rfl rfl (any_of HT_.out (by kernel_rfl)) (fun _ _ _ h => h) (Or.inr ⟨by rfl, rfl⟩) ?_ ?_
                  rotate_left
                  · simp only [Act.put, sA, sB, sC, i64_w, i32_w]
                    rfl
                  refine pure_ (i := 10) (N := some 42) (v := undef) (a' := ?_) #[true, true, true, true, true, true, true, true, true, true, true, false, false, false, false, false, false] rfl rfl (any_of HT_.out (by kernel_rfl)) (fun _ _ _ h => h) (Or.inr ⟨by rfl, rfl⟩) ?_ ?_
                  rotate_left
                  · simp only [Act.put, sA, sB, sC, i64_w, i32_w]
                    rfl
                  refine pure_ (i := 11) (N := some 43) (v := undef) (a' := ?_) #[true, true, true, true, true, true, true, true, true, true, true, true, false, false, false, false, false] rfl rfl (any_of HT_.out (by kernel_rfl)) (fun _ _ _ h => h) (Or.inr ⟨by rfl, rfl⟩) ?_ ?_
                  rotate_left
                  · simp only [Act.put, sA, sB, sC, i64_w, i32_w]
                    rfl
                  refine pure_ (i := 12) (N := some 44) (v := undef) (a' := ?_) #[true, true, true, true, true, true, true, true, true, true, true, true, true, false, false, false, false] rfl rfl (any_of HT_.out (by kernel_rfl)) (fun _ _ _ h => h) (Or.inr ⟨by rfl, rfl⟩) ?_ ?_
                  rotate_left
                  · simp only [Act.put, sA, sB, sC, i64_w, i32_w]
                    rfl
                  refine pure_ (i := 13) (N := some 45) (v := undef) (a' := ?_) #[true, true, true, true, true, true, true, true, true, true, true, true, true, true, false, false, false] rfl rfl (any_of HT_.out (by kernel_rfl)) (fun _ _ _ h => h) (Or.inr ⟨by rfl, rfl⟩) ?_ ?_
                  rotate_left
                  · simp only [Act.put, sA, sB, sC, i64_w, i32_w]
                    rfl
                  refine pure_ (i := 14) (N := some 46) (v := undef) (a' := ?_) #[true, true, true, true, true, true, true, true, true, true, true, true, true, true, true, false, false] rfl rfl (any_of HT_.out (by kernel_rfl)) (fun _ _ _ h => h) (Or.inr ⟨by rfl, rfl⟩) ?_ ?_
                  rotate_left
                  · simp only [Act.put, sA, sB, sC, i64_w, i32_w]
                    rfl
                  refine pure_ (i := 15) (N := some 47) (v := undef) (a' := ?_) #[true, true, true, true, true, true, true, true, true, true, true, true, true, true, true, true, false] rfl rfl (any_of HT_.out (by kernel_rfl)) (fun _ _ _ h => h) (Or.inr ⟨by rfl, rfl⟩) ?_ ?_
                  rotate_left
                  · simp only [Act.put, sA, sB, sC, i64_w, i32_w]
                    rfl
                  refine pure_ (i := 16) (N := some 48) (v := ?_) (a' := ?_) #[true, true, true, true, true, true, true, true, true, true, true, true, true, true, true, true, true] rfl rfl (any_of HT_.out (by kernel_rfl)) (fun _ _ _ h => h) (Or.inl ⟨by rfl, ?_⟩) ?_ ?_
                  rotate_left
                  · intro w'
                    go_simp
                    with_reducible rfl
                  rotate_left
                  · simp only [Act.put, sA, sB, sC, i64_w, i32_w]
                    rfl
                  refine done_ (done_of HT_.out (by kernel_rfl)) ?_
                  have hnb44 := NB162_161.out
                  have hnc44 := NB161_162.out
                  have hnb45 := NB162_165.out
                  have hnc45 := NB165_162.out
                  have hcz46_0 : w43.cell? ⟨gb162, 0, none⟩ = some (.int .i64 x163000_1) := (blk_cell BK162.out 0).trans rfl
                  have hcz46_1 : w43.cell? ⟨gb162, 1, none⟩ = some (.int .i64 x163001_1) := (blk_cell BK162.out 1).trans rfl
                  have hfz46_0 := blk_frozen BK162.out 0
                  have hfz46_1 := blk_frozen BK162.out 1
                  try go_wp2
                  refine bodyPost_ret (results_tc rfl _ _ gb162 27 #[.int .i64 19, .int .i64 x27_1] (0, 0) _ rfl (by (with_reducible repeat first|apply bN|apply bD|apply bA);refine blk_put (cs := #[.int .i64 19, .int .i64 x163001_1]) ?_ 1 _ rfl;(with_reducible repeat first|apply bN|apply bD|apply bA);refine blk_put (cs := #[.int .i64 x163000_1, .int .i64 x163001_1]) ?_ 0 _ rfl;(with_reducible repeat first|apply bN|apply bD|apply bA);exact BK162.out) Try.underlying27 rfl (by kernel_rfl)) rfl ?_
                  exact ⟨_, by first|rfl|(simp [errW_none, errW_some] <;> rfl)|(simp [*, errW_none, errW_some] <;> rfl), by first|exact Kd.R_nil _ _ _ _ _|exact Kd.N_nil _ _ _ _ _|exact Kd.V_nil _ _ _ _ _|exact Kd.Q_nil _ _ _ _ _|exact Kd.S_nil _ _ _ _ _, by repeat (first|(with_reducible first|exact HB.out|apply eA|apply eN|apply eD|refine below_set ?_ GE161.out|refine below_set ?_ GE162.out|refine below_set ?_ GE165.out|refine below_set ?_ GE172.out)|exact HB.out)⟩
                · rw [if_neg c35] at H
                  have c35b0 : decide ((l1.length : Int) < t173) = false := decide_eq_false c35
                  clear c35
                  replace H := Option.bind_eq_some_iff.mp H
                  obtain ⟨t174, A470, H⟩ := H
                  replace H : (if 0 ≤ ((rd_T47 l0_0 x27_1).f0) then (if ((rd_T47 l0_0 x27_1).f0) ≤ t174 then (if t174 ≤ (l1.length : Int) then ((slices_Equal_string_string.f ((l1.take (t174 : Int).toNat).drop (((rd_T47 l0_0 x27_1).f0) : Int).toNat) ((rd_T47 l0_0 x27_1).f1)).bind fun t176 => (if t176 = true then (if 0 ≤ x9_1 then (if x9_1 ≤ ((rd_T47 l0_0 x27_1).f0) then (if ((rd_T47 l0_0 x27_1).f0) ≤ (l1.length : Int) then (if x8_1.length + ((l1.take (((rd_T47 l0_0 x27_1).f0) : Int).toNat).drop (x9_1 : Int).toNat).length < 8796093022208 then ((some (x8_1 ++ ((l1.take (((rd_T47 l0_0 x27_1).f0) : Int).toNat).drop (x9_1 : Int).toNat) : List ByteArray)).bind fun y178 => (if y178.length + ((rd_T47 l0_0 x27_1).f2).length < 8796093022208 then ((textpatch_End.f ((rd_T47 l0_0 x27_1).f0) ((rd_T47 l0_0 x27_1).f1) ((rd_T47 l0_0 x27_1).f2)).bind fun t184 => (textpatch_Apply_0.l0 k1 l1 (y178 ++ ((rd_T47 l0_0 x27_1).f2)) t184 l0_0 (l0_0.length : Int) (wrap64 (x27_1 + 1)))) else (none))) else (none)) else (none)) else (none)) else (none)) else (some (([] : List ByteArray), 19, x27_1)))) else (none)) else (none)) else (none)) = some (r1, r2, r3) := H
                  have A47 := Aside0.mk A470
                  clear A470
                  by_cases c48 : 0 ≤ ((rd_T47 l0_0 x27_1).f0)
                  · rw [if_pos c48] at H
                    have c48b0 := eq_true c48
                    have c48b1 : decide (0 ≤ ((rd_T47 l0_0 x27_1).f0)) = true := decide_eq_true c48
                    clear c48
                    by_cases c49 : ((rd_T47 l0_0 x27_1).f0) ≤ t174
                    · rw [if_pos c49] at H
                      have c49b0 := eq_true c49
                      have c49b1 : decide (((rd_T47 l0_0 x27_1).f0) ≤ t174) = true := decide_eq_true c49
                      clear c49
                      by_cases c50 : t174 ≤ (l1.length : Int)
                      · rw [if_pos c50] at H
                        have c50b0 := eq_true c50
                        have c50b1 : decide (t174 ≤ (l1.length : Int)) = true := decide_eq_true c50
                        clear c50
                        replace H := Option.bind_eq_some_iff.mp H
                        obtain ⟨t176, A510, H⟩ := H
                        replace H : (if t176 = true then (if 0 ≤ x9_1 then (if x9_1 ≤ ((rd_T47 l0_0 x27_1).f0) then (if ((rd_T47 l0_0 x27_1).f0) ≤ (l1.length : Int) then (if x8_1.length + ((l1.take (((rd_T47 l0_0 x27_1).f0) : Int).toNat).drop (x9_1 : Int).toNat).length < 8796093022208 then ((some (x8_1 ++ ((l1.take (((rd_T47 l0_0 x27_1).f0) : Int).toNat).drop (x9_1 : Int).toNat) : List ByteArray)).bind fun y178 => (if y178.length + ((rd_T47 l0_0 x27_1).f2).length < 8796093022208 then ((textpatch_End.f ((rd_T47 l0_0 x27_1).f0) ((rd_T47 l0_0 x27_1).f1) ((rd_T47 l0_0 x27_1).f2)).bind fun t184 => (textpatch_Apply_0.l0 k1 l1 (y178 ++ ((rd_T47 l0_0 x27_1).f2)) t184 l0_0 (l0_0.length : Int) (wrap64 (x27_1 + 1)))) else (none))) else (none)) else (none)) else (none)) else (none)) else (some (([] : List ByteArray), 19, x27_1))) = some (r1, r2, r3) := H
                        have A51 := Aside0.mk A510
                        clear A510
                        by_cases c52 : t176 = true
                        · subst c52
                          have H1 : (if 0 ≤ x9_1 then (if x9_1 ≤ ((rd_T47 l0_0 x27_1).f0) then (if ((rd_T47 l0_0 x27_1).f0) ≤ (l1.length : Int) then (if x8_1.length + ((l1.take (((rd_T47 l0_0 x27_1).f0) : Int).toNat).drop (x9_1 : Int).toNat).length < 8796093022208 then ((some (x8_1 ++ ((l1.take (((rd_T47 l0_0 x27_1).f0) : Int).toNat).drop (x9_1 : Int).toNat) : List ByteArray)).bind fun y178 => (if y178.length + ((rd_T47 l0_0 x27_1).f2).length < 8796093022208 then ((textpatch_End.f ((rd_T47 l0_0 x27_1).f0) ((rd_T47 l0_0 x27_1).f1) ((rd_T47 l0_0 x27_1).f2)).bind fun t184 => (textpatch_Apply_0.l0 k1 l1 (y178 ++ ((rd_T47 l0_0 x27_1).f2)) t184 l0_0 (l0_0.length : Int) (wrap64 (x27_1 + 1)))) else (none))) else (none)) else (none)) else (none)) else (none)) = some (r1, r2, r3) := by rw [if_pos rfl] at H;exact H
                          clear H
                          have H := H1
                          clear H1
                          by_cases c53 : 0 ≤ x9_1
                          · rw [if_pos c53] at H
                            have c53b0 := eq_true c53
                            have c53b1 : decide (0 ≤ x9_1) = true := decide_eq_true c53
                            clear c53
                            by_cases c54 : x9_1 ≤ ((rd_T47 l0_0 x27_1).f0)
                            · rw [if_pos c54] at H
                              have c54b0 := eq_true c54
                              have c54b1 : decide (x9_1 ≤ ((rd_T47 l0_0 x27_1).f0)) = true := decide_eq_true c54
                              clear c54
                              by_cases c55 : ((rd_T47 l0_0 x27_1).f0) ≤ (l1.length : Int)
                              · rw [if_pos c55] at H
                                have c55b0 := eq_true c55
                                have c55b1 : decide (((rd_T47 l0_0 x27_1).f0) ≤ (l1.length : Int)) = true := decide_eq_true c55
                                clear c55
                                by_cases c56 : x8_1.length + ((l1.take (((rd_T47 l0_0 x27_1).f0) : Int).toNat).drop (x9_1 : Int).toNat).length < 8796093022208
                                · rw [if_pos c56] at H
                                  have LMc56 := Aside0.mk c56
                                  clear c56
                                  obtain ⟨y178, hy178⟩ : ∃ y_ : List ByteArray, y_ = (x8_1 ++ ((l1.take (((rd_T47 l0_0 x27_1).f0) : Int).toNat).drop (x9_1 : Int).toNat)) := ⟨_, rfl⟩
                                  replace H : (if y178.length + ((rd_T47 l0_0 x27_1).f2).length < 8796093022208 then ((textpatch_End.f ((rd_T47 l0_0 x27_1).f0) ((rd_T47 l0_0 x27_1).f1) ((rd_T47 l0_0 x27_1).f2)).bind fun t184 => (textpatch_Apply_0.l0 k1 l1 (y178 ++ ((rd_T47 l0_0 x27_1).f2)) t184 l0_0 (l0_0.length : Int) (wrap64 (x27_1 + 1)))) else (none)) = some (r1, r2, r3) := by first|(rw [hy178];with_reducible exact H)|(have H2_ := (Option.bind_some _ _).symm.trans H;rw [hy178];with_reducible exact H2_)|(have H2_ := (Option.bind_some _ _).symm.trans H;with_reducible exact H2_)|with_reducible exact H|(rw [hy178];exact H)|exact H
                                  have Ny178 := Aside0.mk hy178
                                  clear hy178
                                  by_cases c57 : y178.length + ((rd_T47 l0_0 x27_1).f2).length < 8796093022208
                                  · rw [if_pos c57] at H
                                    have LMc57 := Aside0.mk c57
                                    clear c57
                                    obtain ⟨y181, hy181⟩ : ∃ y_ : List ByteArray, y_ = (y178 ++ ((rd_T47 l0_0 x27_1).f2)) := ⟨_, rfl⟩
                                    replace H : ((textpatch_End.f ((rd_T47 l0_0 x27_1).f0) ((rd_T47 l0_0 x27_1).f1) ((rd_T47 l0_0 x27_1).f2)).bind fun t184 => (textpatch_Apply_0.l0 k1 l1 y181 t184 l0_0 (l0_0.length : Int) (wrap64 (x27_1 + 1)))) = some (r1, r2, r3) := by first|(rw [hy181];with_reducible exact H)|(have H2_ := (Option.bind_some _ _).symm.trans H;rw [hy181];with_reducible exact H2_)|(have H2_ := (Option.bind_some _ _).symm.trans H;with_reducible exact H2_)|with_reducible exact H|(rw [hy181];exact H)|exact H
                                    have Ny181 := Aside0.mk hy181
                                    clear hy181
                                    replace H := Option.bind_eq_some_iff.mp H
                                    obtain ⟨t184, A580, H⟩ := H
                                    replace H : (textpatch_Apply_0.l0 k1 l1 y181 t184 l0_0 (l0_0.length : Int) (wrap64 (x27_1 + 1))) = some (r1, r2, r3) := H
                                    have A58 := Aside0.mk A580
                                    clear A580
                                    have H' := Aside0.mk H
                                    clear H
                                    have p171 : 0 ≤ (x27_1 : Int) := of_decide_eq_true (by first|(with_reducible assumption)|assumption)
                                    have q171 : x27_1 < (l0_0.length : Int) := of_decide_eq_true (by first|(with_reducible assumption)|assumption)
                                    obtain ⟨ad171, A171_1, c171_1, A171_2, c171_2, e171, hx171_0, hx171_1, hx171_2, hl171_1, hi171_1, hl171_2, hi171_2⟩ := at_T47 HR0_0.out x27_1 p171 q171
                                    cases e171
                                    replace hx171_0 := (HB.out.cell (World.block_lt_of_cell? w _ hx171_0)).trans hx171_0
                                    replace hx171_1 := (HB.out.cell (World.block_lt_of_cell? w _ hx171_1)).trans hx171_1
                                    replace hx171_2 := (HB.out.cell (World.block_lt_of_cell? w _ hx171_2)).trans hx171_2
                                    have HR171_1 := Aside0.mk hi171_1
                                    have HC171_1 := Aside0.mk hl171_1
                                    clear hi171_1 hl171_1
                                    have HR171_2 := Aside0.mk hi171_2
                                    have HC171_2 := Aside0.mk hl171_2
                                    clear hi171_2 hl171_2
                                    replace p171 := eq_true p171
                                    replace q171 := eq_true q171
                                    try go_wp2_with (first|((with_reducible refine gate_dst (N := 11) rfl ?_);refine box_event ?hg (N := 11) ?hd (cs := #[.int .i64 0, .slice none 0 0, .slice none 0 0]) (t := 47) ?hr ?_;(case hd => rfl);(case hg => rfl);(case hr => first|(go_simp;done)|(go_simp;rfl));intro gb172 hg w59 hbox hb;have n0_ := Aside0.mk (Kd.R_below (by (with_reducible repeat first|apply rA|apply rN|apply rD);exact HO_8.out) hb);have n1_ := Aside0.mk (blk_below (g := gb161) (o := .cells #[.slice (some ad171) l0_0.length c0_0] 24 (0, 0)) (by (with_reducible repeat first|apply bN|apply bD|apply bA);exact BK161.out) hb);have n2_ := Aside0.mk (blk_below (g := gb162) (o := .cells #[.int .i64 x163000_1, .int .i64 x163001_1] 27 (0, 0)) (by (with_reducible repeat first|apply bN|apply bD|apply bA);exact BK162.out) hb);have n3_ := Aside0.mk (blk_below (g := gb165) (o := .cells #[.int .i64 t163, .int .i64 t164] 27 (0, 0)) (by (with_reducible repeat first|apply bN|apply bD|apply bA);exact BK165.out) hb);have n4_ := Aside0.mk (below_step (by repeat (first|(with_reducible first|exact HB.out|apply eA|apply eN|apply eD|refine below_set ?_ GE161.out|refine below_set ?_ GE162.out|refine below_set ?_ GE165.out)|exact HB.out)) hb);have n5_ := Aside0.mk (hbox);have n6_ := Aside0.mk ((by rw [hg];exact (below_size (by repeat (first|(with_reducible first|exact HB.out|apply eA|apply eN|apply eD|refine below_set ?_ GE161.out|refine below_set ?_ GE162.out|refine below_set ?_ GE165.out)|exact HB.out))) : w.heap.size ≤ gb172));have n7_ := Aside0.mk ((by rw [hg];exact (below_size (by repeat (first|(with_reducible first|exact HB.out|apply eA|apply eN|apply eD|refine below_set ?_ GE161.out|refine below_set ?_ GE162.out|refine below_set ?_ GE165.out)|exact HB.out))) : w.heap.size ≤ gb172));have n8_ := Aside0.mk ((by rw [hg];exact Nat.ne_of_lt (blk_lt (g := gb161) (o := .cells #[.slice (some ad171) l0_0.length c0_0] 24 (0, 0)) (by (with_reducible repeat first|apply bN|apply bD|apply bA);exact BK161.out)) : gb161 ≠ gb172));have n9_ := Aside0.mk ((by rw [hg];exact Nat.ne_of_gt (blk_lt (g := gb161) (o := .cells #[.slice (some ad171) l0_0.length c0_0] 24 (0, 0)) (by (with_reducible repeat first|apply bN|apply bD|apply bA);exact BK161.out)) : gb172 ≠ gb161));have n10_ := Aside0.mk ((by rw [hg];exact Nat.ne_of_lt (blk_lt (g := gb162) (o := .cells #[.int .i64 x163000_1, .int .i64 x163001_1] 27 (0, 0)) (by (with_reducible repeat first|apply bN|apply bD|apply bA);exact BK162.out)) : gb162 ≠ gb172));have n11_ := Aside0.mk ((by rw [hg];exact Nat.ne_of_gt (blk_lt (g := gb162) (o := .cells #[.int .i64 x163000_1, .int .i64 x163001_1] 27 (0, 0)) (by (with_reducible repeat first|apply bN|apply bD|apply bA);exact BK162.out)) : gb172 ≠ gb162));have n12_ := Aside0.mk ((by rw [hg];exact Nat.ne_of_lt (blk_lt (g := gb165) (o := .cells #[.int .i64 t163, .int .i64 t164] 27 (0, 0)) (by (with_reducible repeat first|apply bN|apply bD|apply bA);exact BK165.out)) : gb165 ≠ gb172));have n13_ := Aside0.mk ((by rw [hg];exact Nat.ne_of_gt (blk_lt (g := gb165) (o := .cells #[.int .i64 t163, .int .i64 t164] 27 (0, 0)) (by (with_reducible repeat first|apply bN|apply bD|apply bA);exact BK165.out)) : gb172 ≠ gb165));clear HO_8;clear BK161;clear BK162;clear BK165;clear HB;have HO_8 := n0_;have BK161 := n1_;have BK162 := n2_;have BK165 := n3_;have HB := n4_;have BK172 := n5_;have GW172 := n6_;have GE172 := n7_;have NB161_172 := n8_;have NB172_161 := n9_;have NB162_172 := n10_;have NB172_162 := n11_;have NB165_172 := n12_;have NB172_165 := n13_;clear n0_ n1_ n2_ n3_ n4_ n5_ n6_ n7_ n8_ n9_ n10_ n11_ n12_ n13_;clear hb hbox hg;have hnb60 := NB172_161.out;have hnc60 := NB161_172.out;have hnb61 := NB172_162.out;have hnc61 := NB162_172.out;have hnb62 := NB172_165.out;have hnc62 := NB165_172.out;have hcz63_0 : w59.cell? ⟨gb172, 0, none⟩ = some (.int .i64 0) := (blk_cell BK172.out 0).trans rfl;have hcz63_1 : w59.cell? ⟨gb172, 1, none⟩ = some (.slice none 0 0) := (blk_cell BK172.out 1).trans rfl;have hcz63_2 : w59.cell? ⟨gb172, 2, none⟩ = some (.slice none 0 0) := (blk_cell BK172.out 2).trans rfl;have hfz63_0 := blk_frozen BK172.out 0;have hfz63_1 := blk_frozen BK172.out 1;have hfz63_2 := blk_frozen BK172.out 2))
                                    have n0_ : Aside0 (Kd.R Kd.string 9 (((w59.setCell ⟨gb172, 0, none⟩ (.int .i64 ((rd_T47 l0_0 x27_1).f0))).setCell ⟨gb172, 1, none⟩ (.slice A171_1 ((rd_T47 l0_0 x27_1).f1).length c171_1)).setCell ⟨gb172, 2, none⟩ (.slice A171_2 ((rd_T47 l0_0 x27_1).f2).length c171_2)) w.heap.size (fun _ => True) u8 x8_1) := ⟨by (with_reducible repeat first|apply rA|apply rN|apply rD);exact Kd.R_mono (Kd.R_far (p := ⟨gb172, 2, none⟩) (Kd.R_far (p := ⟨gb172, 1, none⟩) (Kd.R_far (p := ⟨gb172, 0, none⟩) (Kd.R_types HO_8.out BK172.out (by decide)) (fun _ hk => hk.2) (.int .i64 ((rd_T47 l0_0 x27_1).f0))) (fun _ hk => hk.2) (.slice A171_1 ((rd_T47 l0_0 x27_1).f1).length c171_1)) (fun _ hk => hk.2) (.slice A171_2 ((rd_T47 l0_0 x27_1).f2).length c171_2)) (fun _ hk => trivial)⟩
                                    have n1_ : Aside0 ((((w59.setCell ⟨gb172, 0, none⟩ (.int .i64 ((rd_T47 l0_0 x27_1).f0))).setCell ⟨gb172, 1, none⟩ (.slice A171_1 ((rd_T47 l0_0 x27_1).f1).length c171_1)).setCell ⟨gb172, 2, none⟩ (.slice A171_2 ((rd_T47 l0_0 x27_1).f2).length c171_2)).heap[gb161]? = some (.cells #[.slice (some ad171) l0_0.length c0_0] 24 (0, 0))) := ⟨by (with_reducible repeat first|apply bN|apply bD|apply bA);refine blk_far ?_ NB161_172.out _;(with_reducible repeat first|apply bN|apply bD|apply bA);refine blk_far ?_ NB161_172.out _;(with_reducible repeat first|apply bN|apply bD|apply bA);refine blk_far ?_ NB161_172.out _;(with_reducible repeat first|apply bN|apply bD|apply bA);exact BK161.out⟩
                                    have n2_ : Aside0 ((((w59.setCell ⟨gb172, 0, none⟩ (.int .i64 ((rd_T47 l0_0 x27_1).f0))).setCell ⟨gb172, 1, none⟩ (.slice A171_1 ((rd_T47 l0_0 x27_1).f1).length c171_1)).setCell ⟨gb172, 2, none⟩ (.slice A171_2 ((rd_T47 l0_0 x27_1).f2).length c171_2)).heap[gb162]? = some (.cells #[.int .i64 x163000_1, .int .i64 x163001_1] 27 (0, 0))) := ⟨by (with_reducible repeat first|apply bN|apply bD|apply bA);refine blk_far ?_ NB162_172.out _;(with_reducible repeat first|apply bN|apply bD|apply bA);refine blk_far ?_ NB162_172.out _;(with_reducible repeat first|apply bN|apply bD|apply bA);refine blk_far ?_ NB162_172.out _;(with_reducible repeat first|apply bN|apply bD|apply bA);exact BK162.out⟩
                                    have n3_ : Aside0 ((((w59.setCell ⟨gb172, 0, none⟩ (.int .i64 ((rd_T47 l0_0 x27_1).f0))).setCell ⟨gb172, 1, none⟩ (.slice A171_1 ((rd_T47 l0_0 x27_1).f1).length c171_1)).setCell ⟨gb172, 2, none⟩ (.slice A171_2 ((rd_T47 l0_0 x27_1).f2).length c171_2)).heap[gb165]? = some (.cells #[.int .i64 t163, .int .i64 t164] 27 (0, 0))) := ⟨by (with_reducible repeat first|apply bN|apply bD|apply bA);refine blk_far ?_ NB165_172.out _;(with_reducible repeat first|apply bN|apply bD|apply bA);refine blk_far ?_ NB165_172.out _;(with_reducible repeat first|apply bN|apply bD|apply bA);refine blk_far ?_ NB165_172.out _;(with_reducible repeat first|apply bN|apply bD|apply bA);exact BK165.out⟩
                                    have n4_ : Aside0 ((((w59.setCell ⟨gb172, 0, none⟩ (.int .i64 ((rd_T47 l0_0 x27_1).f0))).setCell ⟨gb172, 1, none⟩ (.slice A171_1 ((rd_T47 l0_0 x27_1).f1).length c171_1)).setCell ⟨gb172, 2, none⟩ (.slice A171_2 ((rd_T47 l0_0 x27_1).f2).length c171_2)).heap[gb172]? = some (.cells #[.int .i64 ((rd_T47 l0_0 x27_1).f0), .slice A171_1 ((rd_T47 l0_0 x27_1).f1).length c171_1, .slice A171_2 ((rd_T47 l0_0 x27_1).f2).length c171_2] 47 (0, 0))) := ⟨by (with_reducible repeat first|apply bN|apply bD|apply bA);refine blk_put (cs := #[.int .i64 ((rd_T47 l0_0 x27_1).f0), .slice A171_1 ((rd_T47 l0_0 x27_1).f1).length c171_1, .slice none 0 0]) ?_ 2 _ rfl;(with_reducible repeat first|apply bN|apply bD|apply bA);refine blk_put (cs := #[.int .i64 ((rd_T47 l0_0 x27_1).f0), .slice none 0 0, .slice none 0 0]) ?_ 1 _ rfl;(with_reducible repeat first|apply bN|apply bD|apply bA);refine blk_put (cs := #[.int .i64 0, .slice none 0 0, .slice none 0 0]) ?_ 0 _ rfl;(with_reducible repeat first|apply bN|apply bD|apply bA);exact BK172.out⟩
                                    have n5_ : Aside0 (Below w.heap.size w (((w59.setCell ⟨gb172, 0, none⟩ (.int .i64 ((rd_T47 l0_0 x27_1).f0))).setCell ⟨gb172, 1, none⟩ (.slice A171_1 ((rd_T47 l0_0 x27_1).f1).length c171_1)).setCell ⟨gb172, 2, none⟩ (.slice A171_2 ((rd_T47 l0_0 x27_1).f2).length c171_2))) := ⟨by repeat (first|(with_reducible first|exact HB.out|apply eA|apply eN|apply eD|refine below_set ?_ GE161.out|refine below_set ?_ GE162.out|refine below_set ?_ GE165.out|refine below_set ?_ GE172.out)|exact HB.out)⟩
                                    (try clear HO_8)
                                    (try clear BK161)
                                    (try clear BK162)
                                    (try clear BK165)
                                    (try clear BK172)
                                    (try clear HB)
                                    generalize (((w59.setCell ⟨gb172, 0, none⟩ (.int .i64 ((rd_T47 l0_0 x27_1).f0))).setCell ⟨gb172, 1, none⟩ (.slice A171_1 ((rd_T47 l0_0 x27_1).f1).length c171_1)).setCell ⟨gb172, 2, none⟩ (.slice A171_2 ((rd_T47 l0_0 x27_1).f2).length c171_2)) = w64 at n0_ n1_ n2_ n3_ n4_ n5_ ⊢
                                    have HO_8 := n0_
                                    have BK161 := n1_
                                    have BK162 := n2_
                                    have BK165 := n3_
                                    have BK172 := n4_
                                    have HB := n5_
                                    clear n0_ n1_ n2_ n3_ n4_ n5_
                                    have n0_ := Aside0.mk (Kd.R_drew HO_8.out)
                                    have n1_ := Aside0.mk (blk_drew BK161.out)
                                    have n2_ := Aside0.mk (blk_drew BK162.out)
                                    have n3_ := Aside0.mk (blk_drew BK165.out)
                                    have n4_ := Aside0.mk (blk_drew BK172.out)
                                    have n5_ := Aside0.mk (below_drew1 HB.out)
                                    clear HO_8
                                    clear BK161
                                    clear BK162
                                    clear BK165
                                    clear BK172
                                    clear HB
                                    have HO_8 := n0_
                                    have BK161 := n1_
                                    have BK162 := n2_
                                    have BK165 := n3_
                                    have BK172 := n4_
                                    have HB := n5_
                                    clear n0_ n1_ n2_ n3_ n4_ n5_
                                    refine start_ (n := 17) (S := fun w' => w'.cell? ⟨gb172, 0, none⟩ = some (.int .i64 ((rd_T47 l0_0 x27_1).f0)) ∧ w'.cell? ⟨gb172, 1, none⟩ = some (.slice A171_1 ((rd_T47 l0_0 x27_1).f1).length c171_1) ∧ w'.cell? ⟨gb172, 2, none⟩ = some (.slice A171_2 ((rd_T47 l0_0 x27_1).f2).length c171_2)) (ds := []) #[false, false, false, false, false, false, false, false, false, false, false, false, false, false, false, false, false] (by kernel_rfl) rfl rfl ⟨(blk_cell BK172.out 0).trans rfl, (blk_cell BK172.out 1).trans rfl, (blk_cell BK172.out 2).trans rfl⟩ (fun hHeld => ?_);refine with_tabW textpatch_Apply_0.tab12 textpatch_Apply_0.bits12 (fun HT_ HW_ => ?_)
                                    generalize w64.drew = w65 at HO_8 BK161 BK162 BK165 BK172 HB hHeld ⊢
                                    refine pure_ (i := 2) (N := some 34) (v := ?_) (a' := ?_) #[false, false, true, false, false, false, false, false, false, false, false, false, false, false, false, false, false] rfl rfl (any_of HT_.out (by kernel_rfl)) (fun _ _ _ h => h) (Or.inl ⟨by rfl, ?_⟩) ?_ ?_
                                    rotate_left
                                    · intro w'
                                      go_simp
                                      with_reducible rfl
                                    rotate_left
                                    · simp only [Act.put, sA, sB, sC, i64_w, i32_w]
                                      rfl
                                    refine pure_ (i := 3) (N := some 35) (v := ?_) (a' := ?_) #[false, false, true, true, false, false, false, false, false, false, false, false, false, false, false, false, false] rfl rfl (any_of HT_.out (by kernel_rfl)) (fun _ _ _ h => h) (Or.inl ⟨by rfl, ?_⟩) ?_ ?_
                                    rotate_left
                                    · intro w'
                                      go_simp
                                      with_reducible rfl
                                    rotate_left
                                    · simp only [Act.put, sA, sB, sC, i64_w, i32_w]
                                      rfl
                                    refine take_ (i := 0) (N := some 32) (v := ?_) (a' := ?_) #[true, false, true, true, false, false, false, false, false, false, false, false, false, false, false, false, false] rfl rfl (take_ofW HT_.out HW_.out (by kernel_rfl)) (fun _ _ _ h => h) (Or.inl ⟨by rfl, ?_⟩) hHeld ?_ ?_
                                    rotate_left
                                    · rintro w' ⟨s0, s1, s2⟩
                                      go_simp
                                      with_reducible rfl
                                    rotate_left
                                    · simp only [Act.put, sA, sB, sC, i64_w, i32_w]
                                      rfl
                                    refine one_ (i := 1) (N := some 33) #[true, true, true, true, false, false, false, false, false, false, false, false, false, false, false, false, false] rfl rfl (one_of HT_.out (by kernel_rfl)) (by decide) (fun K hK => ?_)
                                    refine goes_ Try.func33 (by kernel_rfl) rfl #[.agg #[.int .i64 ((rd_T47 l0_0 x27_1).f0), .slice A171_1 ((rd_T47 l0_0 x27_1).f1).length c171_1, .slice A171_2 ((rd_T47 l0_0 x27_1).f2).length c171_2]] (by rfl) rfl rfl (by (try simp only [List.map_toArray, List.map_cons, List.map_nil]);first|done|rfl|(simp only [List.length_drop, List.length_take];rfl)) ?_
                                    with_reducible refine (textpatch_End.calls ((rd_T47 l0_0 x27_1).f0) _ _ ((rd_T47 l0_0 x27_1).f1) _ _ ((rd_T47 l0_0 x27_1).f2) t173 _ ?side1 ?side2 ?side3 ?side4 A34.out).mono ?_
                                    (case side1 => repeat (first|exact (Kd.C_below HR171_1.out HB.out)|(with_reducible refine Kd.C_alloc ?_ _)|(with_reducible refine Kd.C_drewN ?_ _)|(with_reducible refine Kd.C_drew ?_)))
                                    (case side2 => exact HC171_1.out)
                                    (case side3 => repeat (first|exact (Kd.C_below HR171_2.out HB.out)|(with_reducible refine Kd.C_alloc ?_ _)|(with_reducible refine Kd.C_drewN ?_ _)|(with_reducible refine Kd.C_drew ?_)))
                                    (case side4 => exact HC171_2.out)
                                    rintro e w66 ⟨rfl, hb⟩
                                    refine ⟨_, rfl, ?_⟩
                                    have n0_ := Aside0.mk (Kd.R_below (by (with_reducible repeat first|apply rA|apply rN|apply rD);exact HO_8.out) hb)
                                    have n1_ := Aside0.mk (blk_below (g := gb161) (o := .cells #[.slice (some ad171) l0_0.length c0_0] 24 (0, 0)) (by (with_reducible repeat first|apply bN|apply bD|apply bA);exact BK161.out) hb)
                                    have n2_ := Aside0.mk (blk_below (g := gb162) (o := .cells #[.int .i64 x163000_1, .int .i64 x163001_1] 27 (0, 0)) (by (with_reducible repeat first|apply bN|apply bD|apply bA);exact BK162.out) hb)
                                    have n3_ := Aside0.mk (blk_below (g := gb165) (o := .cells #[.int .i64 t163, .int .i64 t164] 27 (0, 0)) (by (with_reducible repeat first|apply bN|apply bD|apply bA);exact BK165.out) hb)
                                    have n4_ := Aside0.mk (blk_below (g := gb172) (o := .cells #[.int .i64 ((rd_T47 l0_0 x27_1).f0), .slice A171_1 ((rd_T47 l0_0 x27_1).f1).length c171_1, .slice A171_2 ((rd_T47 l0_0 x27_1).f2).length c171_2] 47 (0, 0)) (by (with_reducible repeat first|apply bN|apply bD|apply bA);exact BK172.out) hb)
                                    have n5_ := Aside0.mk (below_step (by repeat (first|(with_reducible first|exact HB.out|apply eA|apply eN|apply eD|refine below_set ?_ GE161.out|refine below_set ?_ GE162.out|refine below_set ?_ GE165.out|refine below_set ?_ GE172.out)|exact HB.out)) hb)
                                    clear HO_8
                                    clear BK161
                                    clear BK162
                                    clear BK165
                                    clear BK172
                                    clear HB
                                    have HO_8 := n0_
                                    have BK161 := n1_
                                    have BK162 := n2_
                                    have BK165 := n3_
                                    have BK172 := n4_
                                    have HB := n5_
                                    clear n0_ n1_ n2_ n3_ n4_ n5_
                                    (try clear hb)
                                    (try clear hb2)
                                    (try clear hk)
                                    (try clear hi)
                                    refine hK.out _ _ ⟨(blk_cell BK172.out 0).trans rfl, (blk_cell BK172.out 1).trans rfl, (blk_cell BK172.out 2).trans rfl⟩ (fun hHeld => ?_)
                                    clear hK K
                                    refine norm_ (a' := ?_) ?_ ?_
                                    rotate_left
                                    · show Act.put _ (some 33) _ = _
                                      simp only [Act.put, sA, sB, sC, i64_w, i32_w]
                                      rfl
                                    refine pure_ (i := 4) (N := some 36) (v := ?_) (a' := ?_) #[true, true, true, true, true, false, false, false, false, false, false, false, false, false, false, false, false] rfl rfl (any_of HT_.out (by kernel_rfl)) (fun _ _ _ h => h) (Or.inl ⟨by rfl, ?_⟩) ?_ ?_
                                    rotate_left
                                    · intro w'
                                      go_simp
                                      with_reducible rfl
                                    rotate_left
                                    · simp only [Act.put, sA, sB, sC, i64_w, i32_w]
                                      rfl
                                    refine pure_ (i := 5) (N := some 37) (v := ?_) (a' := ?_) #[true, true, true, true, true, true, false, false, false, false, false, false, false, false, false, false, false] rfl rfl (any_of HT_.out (by kernel_rfl)) (fun _ _ _ h => h) (Or.inl ⟨by rfl, ?_⟩) ?_ ?_
                                    rotate_left
                                    · intro w'
                                      go_simp
                                      with_reducible rfl
                                    rotate_left
                                    · simp only [Act.put, sA, sB, sC, i64_w, i32_w]
                                      rfl
                                    refine pure_ (i := 6) (N := some 38) (v := ?_) (a' := ?_) #[true, true, true, true, true, true, true, false, false, false, false, false, false, false, false, false, false] rfl rfl (any_of HT_.out (by kernel_rfl)) (fun _ _ _ h => h) (Or.inl ⟨by rfl, ?_⟩) ?_ ?_
                                    rotate_left
                                    · intro w'
                                      go_simp
                                      with_reducible rfl
                                    rotate_left
                                    · simp only [Act.put, sA, sB, sC, i64_w, i32_w]
                                      rfl
                                    refine pure_ (i := 7) (N := some 39) (v := ?_) (a' := ?_) #[true, true, true, true, true, true, true, true, false, false, false, false, false, false, false, false, false] rfl rfl (any_of HT_.out (by kernel_rfl)) (fun _ _ _ h => h) (Or.inl ⟨by rfl, ?_⟩) ?_ ?_
                                    rotate_left
                                    · intro w'
                                      go_simp
                                      with_reducible rfl
                                    rotate_left
                                    · simp only [Act.put, sA, sB, sC, i64_w, i32_w]
                                      rfl
                                    refine pure_ (i := 12) (N := some 44) (v := ?_) (a' := ?_) #[true, true, true, true, true, true, true, true, false, false, false, false, true, false, false, false, false] rfl rfl (any_of HT_.out (by kernel_rfl)) (fun _ _ _ h => h) (Or.inl ⟨by rfl, ?_⟩) ?_ ?_
                                    rotate_left
                                    · intro w'
                                      go_simp
                                      with_reducible rfl
                                    rotate_left
                                    · simp only [Act.put, sA, sB, sC, i64_w, i32_w]
                                      rfl
                                    refine take_ (i := 8) (N := some 40) (v := ?_) (a' := ?_) #[true, true, true, true, true, true, true, true, true, false, false, false, true, false, false, false, false] rfl rfl (take_ofW HT_.out HW_.out (by kernel_rfl)) (fun _ _ _ h => h) (Or.inl ⟨by rfl, ?_⟩) hHeld ?_ ?_
                                    rotate_left
                                    · rintro w' ⟨s0, s1, s2⟩
                                      go_simp
                                      with_reducible rfl
                                    rotate_left
                                    · simp only [Act.put, sA, sB, sC, i64_w, i32_w]
                                      rfl
                                    refine take_ (i := 9) (N := some 41) (v := ?_) (a' := ?_) #[true, true, true, true, true, true, true, true, true, true, false, false, true, false, false, false, false] rfl rfl (take_ofW HT_.out HW_.out (by kernel_rfl)) (fun _ _ _ h => h) (Or.inl ⟨by rfl, ?_⟩) hHeld ?_ ?_
                                    rotate_left
                                    · rintro w' ⟨s0, s1, s2⟩
                                      go_simp
                                      with_reducible rfl
                                    rotate_left
                                    · simp only [Act.put, sA, sB, sC, i64_w, i32_w]
                                      rfl
                                    refine take_ (i := 13) (N := some 45) (v := ?_) (a' := ?_) #[true, true, true, true, true, true, true, true, true, true, false, false, true, true, false, false, false] rfl rfl (take_ofW HT_.out HW_.out (by kernel_rfl)) (fun _ _ _ h => h) (Or.inl ⟨by rfl, ?_⟩) hHeld ?_ ?_
                                    rotate_left
                                    · rintro w' ⟨s0, s1, s2⟩
                                      go_simp
                                      with_reducible rfl
                                    rotate_left
                                    · simp only [Act.put, sA, sB, sC, i64_w, i32_w]
                                      rfl
                                    refine one_ (i := 10) (N := some 42) #[true, true, true, true, true, true, true, true, true, true, true, false, true, true, false, false, false] rfl rfl (one_of HT_.out (by kernel_rfl)) (by decide) (fun K hK => ?_)
                                    refine goes_ Try.func33 (by kernel_rfl) rfl #[.agg #[.int .i64 ((rd_T47 l0_0 x27_1).f0), .slice A171_1 ((rd_T47 l0_0 x27_1).f1).length c171_1, .slice A171_2 ((rd_T47 l0_0 x27_1).f2).length c171_2]] (by rfl) rfl rfl (by (try simp only [List.map_toArray, List.map_cons, List.map_nil]);first|done|rfl|(simp only [List.length_drop, List.length_take];rfl)) ?_
                                    with_reducible refine (textpatch_End.calls ((rd_T47 l0_0 x27_1).f0) _ _ ((rd_T47 l0_0 x27_1).f1) _ _ ((rd_T47 l0_0 x27_1).f2) t174 _ ?side1 ?side2 ?side3 ?side4 A47.out).mono ?_
                                    (case side1 => repeat (first|exact (Kd.C_below HR171_1.out HB.out)|(with_reducible refine Kd.C_alloc ?_ _)|(with_reducible refine Kd.C_drewN ?_ _)|(with_reducible refine Kd.C_drew ?_)))
                                    (case side2 => exact HC171_1.out)
                                    (case side3 => repeat (first|exact (Kd.C_below HR171_2.out HB.out)|(with_reducible refine Kd.C_alloc ?_ _)|(with_reducible refine Kd.C_drewN ?_ _)|(with_reducible refine Kd.C_drew ?_)))
                                    (case side4 => exact HC171_2.out)
                                    rintro e w67 ⟨rfl, hb⟩
                                    refine ⟨_, rfl, ?_⟩
                                    have n0_ := Aside0.mk (Kd.R_below (by (with_reducible repeat first|apply rA|apply rN|apply rD);exact HO_8.out) hb)
                                    have n1_ := Aside0.mk (blk_below (g := gb161) (o := .cells #[.slice (some ad171) l0_0.length c0_0] 24 (0, 0)) (by (with_reducible repeat first|apply bN|apply bD|apply bA);exact BK161.out) hb)
                                    have n2_ := Aside0.mk (blk_below (g := gb162) (o := .cells #[.int .i64 x163000_1, .int .i64 x163001_1] 27 (0, 0)) (by (with_reducible repeat first|apply bN|apply bD|apply bA);exact BK162.out) hb)
                                    have n3_ := Aside0.mk (blk_below (g := gb165) (o := .cells #[.int .i64 t163, .int .i64 t164] 27 (0, 0)) (by (with_reducible repeat first|apply bN|apply bD|apply bA);exact BK165.out) hb)
                                    have n4_ := Aside0.mk (blk_below (g := gb172) (o := .cells #[.int .i64 ((rd_T47 l0_0 x27_1).f0), .slice A171_1 ((rd_T47 l0_0 x27_1).f1).length c171_1, .slice A171_2 ((rd_T47 l0_0 x27_1).f2).length c171_2] 47 (0, 0)) (by (with_reducible repeat first|apply bN|apply bD|apply bA);exact BK172.out) hb)
                                    have n5_ := Aside0.mk (below_step (by repeat (first|(with_reducible first|exact HB.out|apply eA|apply eN|apply eD|refine below_set ?_ GE161.out|refine below_set ?_ GE162.out|refine below_set ?_ GE165.out|refine below_set ?_ GE172.out)|exact HB.out)) hb)
                                    clear HO_8
                                    clear BK161
                                    clear BK162
                                    clear BK165
                                    clear BK172
                                    clear HB
                                    have HO_8 := n0_
                                    have BK161 := n1_
                                    have BK162 := n2_
                                    have BK165 := n3_
                                    have BK172 := n4_
                                    have HB := n5_
                                    clear n0_ n1_ n2_ n3_ n4_ n5_
                                    (try clear hb)
                                    (try clear hb2)
                                    (try clear hk)
                                    (try clear hi)
                                    obtain ⟨i068, hi068, _, hsz68, _⟩ := info_parts info9
                                    obtain ⟨A68, hcut68, hA68, hC68⟩ := print_mid_of (P := Try.prog) Value.string (⟨#[]⟩ : ByteArray) 25 9 .i64 .i64 Try.underlying25 hi068 hsz68 A1 c1 l1 ((rd_T47 l0_0 x27_1).f0) t174 (of_decide_eq_true (by first|(with_reducible assumption)|assumption)) (by first|omega|exact of_decide_eq_true (by first|(with_reducible assumption)|assumption)) (of_decide_eq_true (by first|(with_reducible assumption)|assumption)) HC1.out
                                    have HR175 := Aside0.mk (Kd.C_of_reads (h1 := fun _ => rfl) (hA68 _ (Kd.reads_of_C HR1.out)))
                                    have HC175 := Aside0.mk hC68
                                    clear hA68 hC68 hi068 hsz68
                                    refine hK.out _ _ ⟨(blk_cell BK172.out 0).trans rfl, (blk_cell BK172.out 1).trans rfl, (blk_cell BK172.out 2).trans rfl⟩ (fun hHeld => ?_)
                                    clear hK K
                                    refine norm_ (a' := ?_) ?_ ?_
                                    rotate_left
                                    · show Act.put _ (some 42) _ = _
                                      simp only [Act.put, sA, sB, sC, i64_w, i32_w]
                                      rfl
                                    refine pure_ (i := 11) (N := some 43) (v := ?_) (a' := ?_) #[true, true, true, true, true, true, true, true, true, true, true, true, true, true, false, false, false] rfl rfl (any_of HT_.out (by kernel_rfl)) (fun _ _ _ h => h) (Or.inl ⟨by rfl, ?_⟩) ?_ ?_
                                    rotate_left
                                    · intro w'
                                      go_simp
                                      with_reducible rfl
                                    rotate_left
                                    · simp only [Act.put, sA, sB, sC, i64_w, i32_w]
                                      rfl
                                    refine one_ (i := 14) (N := some 46) #[true, true, true, true, true, true, true, true, true, true, true, true, true, true, true, false, false] rfl rfl (one_of HT_.out (by kernel_rfl)) (by decide) (fun K hK => ?_)
                                    refine goes_ Try.func34 (by kernel_rfl) rfl #[.slice A68 ((l1.take (t174 : Int).toNat).drop (((rd_T47 l0_0 x27_1).f0) : Int).toNat).length (c1 - ((rd_T47 l0_0 x27_1).f0).toNat), .slice A171_1 ((rd_T47 l0_0 x27_1).f1).length c171_1] (by rfl) rfl rfl (by (try simp only [List.map_toArray, List.map_cons, List.map_nil]);first|done|(rw [show ((l1.take (t174 : Int).toNat).drop (((rd_T47 l0_0 x27_1).f0) : Int).toNat).length = (t174.toNat - ((rd_T47 l0_0 x27_1).f0).toNat) from (by rw [List.length_drop, List.length_take];have h_ : (t174 : Int) ≤ (l1.length : Int) := of_decide_eq_true (by first|(with_reducible assumption)|assumption);omega)] <;> rfl)|rfl|(simp only [List.length_drop, List.length_take];rfl)) ?_
                                    with_reducible refine (slices_Equal_string_string.calls _ _ ((l1.take (t174 : Int).toNat).drop (((rd_T47 l0_0 x27_1).f0) : Int).toNat) _ _ ((rd_T47 l0_0 x27_1).f1) true _ ?side1 ?side2 ?side3 ?side4 A51.out).mono ?_
                                    (case side1 => repeat (first|exact (Kd.C_below HR175.out HB.out)|(with_reducible refine Kd.C_alloc ?_ _)|(with_reducible refine Kd.C_drewN ?_ _)|(with_reducible refine Kd.C_drew ?_)))
                                    (case side2 => exact HC175.out)
                                    (case side3 => repeat (first|exact (Kd.C_below HR171_1.out HB.out)|(with_reducible refine Kd.C_alloc ?_ _)|(with_reducible refine Kd.C_drewN ?_ _)|(with_reducible refine Kd.C_drew ?_)))
                                    (case side4 => exact HC171_1.out)
                                    rintro e w' ⟨rfl, ⟨nd, rfl⟩⟩
                                    refine ⟨_, rfl, ?_⟩
                                    refine hK.out _ _ ⟨(blk_cell BK172.out 0).trans rfl, (blk_cell BK172.out 1).trans rfl, (blk_cell BK172.out 2).trans rfl⟩ (fun hHeld => ?_)
                                    clear hK K
                                    refine norm_ (a' := ?_) ?_ ?_
                                    rotate_left
                                    · show Act.put _ (some 46) _ = _
                                      simp only [Act.put, sA, sB, sC, i64_w, i32_w]
                                      rfl
                                    refine pure_ (i := 15) (N := some 47) (v := ?_) (a' := ?_) #[true, true, true, true, true, true, true, true, true, true, true, true, true, true, true, true, false] rfl rfl (any_of HT_.out (by kernel_rfl)) (fun _ _ _ h => h) (Or.inl ⟨by rfl, ?_⟩) ?_ ?_
                                    rotate_left
                                    · intro w'
                                      go_simp
                                      with_reducible rfl
                                    rotate_left
                                    · simp only [Act.put, sA, sB, sC, i64_w, i32_w]
                                      rfl
                                    refine pure_ (i := 16) (N := some 48) (v := ?_) (a' := ?_) #[true, true, true, true, true, true, true, true, true, true, true, true, true, true, true, true, true] rfl rfl (any_of HT_.out (by kernel_rfl)) (fun _ _ _ h => h) (Or.inl ⟨by rfl, ?_⟩) ?_ ?_
                                    rotate_left
                                    · intro w'
                                      go_simp
                                      with_reducible rfl
                                    rotate_left
                                    · simp only [Act.put, sA, sB, sC, i64_w, i32_w]
                                      rfl
                                    refine done_ (done_of HT_.out (by kernel_rfl)) ?_
                                    try go_wp2
                                    (try (rw [drewN_self w67];generalize hq_ : World.drewN w67 _ = w67;have n0_ : Aside0 (Kd.R Kd.string 9 w67 w.heap.size (fun _ => True) u8 x8_1) := ⟨by rw [← hq_];exact (by (with_reducible repeat first|apply rA|apply rN|apply rD);exact HO_8.out)⟩;have n1_ : Aside0 (w67.heap[gb161]? = some (.cells #[.slice (some ad171) l0_0.length c0_0] 24 (0, 0))) := ⟨by rw [← hq_];exact (by (with_reducible repeat first|apply bN|apply bD|apply bA);exact BK161.out)⟩;have n2_ : Aside0 (w67.heap[gb162]? = some (.cells #[.int .i64 x163000_1, .int .i64 x163001_1] 27 (0, 0))) := ⟨by rw [← hq_];exact (by (with_reducible repeat first|apply bN|apply bD|apply bA);exact BK162.out)⟩;have n3_ : Aside0 (w67.heap[gb165]? = some (.cells #[.int .i64 t163, .int .i64 t164] 27 (0, 0))) := ⟨by rw [← hq_];exact (by (with_reducible repeat first|apply bN|apply bD|apply bA);exact BK165.out)⟩;have n4_ : Aside0 (w67.heap[gb172]? = some (.cells #[.int .i64 ((rd_T47 l0_0 x27_1).f0), .slice A171_1 ((rd_T47 l0_0 x27_1).f1).length c171_1, .slice A171_2 ((rd_T47 l0_0 x27_1).f2).length c171_2] 47 (0, 0))) := ⟨by rw [← hq_];exact (by (with_reducible repeat first|apply bN|apply bD|apply bA);exact BK172.out)⟩;have n5_ : Aside0 (Below w.heap.size w w67) := ⟨by rw [← hq_];exact (by repeat (first|(with_reducible first|exact HB.out|apply eA|apply eN|apply eD|refine below_set ?_ GE161.out|refine below_set ?_ GE162.out|refine below_set ?_ GE165.out|refine below_set ?_ GE172.out)|exact HB.out))⟩;clear HO_8 BK161 BK162 BK165 BK172 HB hq_;have HO_8 := n0_;have BK161 := n1_;have BK162 := n2_;have BK165 := n3_;have BK172 := n4_;have HB := n5_;clear n0_ n1_ n2_ n3_ n4_ n5_))
                                    have n0_ := Aside0.mk (Kd.R_drew HO_8.out)
                                    have n1_ := Aside0.mk (blk_drew BK161.out)
                                    have n2_ := Aside0.mk (blk_drew BK162.out)
                                    have n3_ := Aside0.mk (blk_drew BK165.out)
                                    have n4_ := Aside0.mk (blk_drew BK172.out)
                                    have n5_ := Aside0.mk (below_drew1 HB.out)
                                    clear HO_8
                                    clear BK161
                                    clear BK162
                                    clear BK165
                                    clear BK172
                                    clear HB
                                    have HO_8 := n0_
                                    have BK161 := n1_
                                    have BK162 := n2_
                                    have BK165 := n3_
                                    have BK172 := n4_
                                    have HB := n5_
                                    clear n0_ n1_ n2_ n3_ n4_ n5_
                                    obtain ⟨i070, hi070, _, hsz70, _⟩ := info_parts info9
                                    obtain ⟨A70, hcut70, hA70, hC70⟩ := print_mid_of (P := Try.prog) Value.string (⟨#[]⟩ : ByteArray) 25 9 .i64 .i64 Try.underlying25 hi070 hsz70 A1 c1 l1 x9_1 ((rd_T47 l0_0 x27_1).f0) (of_decide_eq_true (by first|(with_reducible assumption)|assumption)) (by first|omega|exact of_decide_eq_true (by first|(with_reducible assumption)|assumption)) (of_decide_eq_true (by first|(with_reducible assumption)|assumption)) HC1.out
                                    have HR177 := Aside0.mk (Kd.C_of_reads (h1 := fun _ => rfl) (hA70 _ (Kd.reads_of_C HR1.out)))
                                    have HC177 := Aside0.mk hC70
                                    clear hA70 hC70 hi070 hsz70
                                    refine start_ (n := 11) (S := fun w' => w'.cell? ⟨gb172, 0, none⟩ = some (.int .i64 ((rd_T47 l0_0 x27_1).f0)) ∧ w'.cell? ⟨gb172, 1, none⟩ = some (.slice A171_1 ((rd_T47 l0_0 x27_1).f1).length c171_1) ∧ w'.cell? ⟨gb172, 2, none⟩ = some (.slice A171_2 ((rd_T47 l0_0 x27_1).f2).length c171_2)) (ds := []) #[false, false, false, false, false, false, false, false, false, false, false] (by kernel_rfl) rfl rfl ⟨(blk_cell BK172.out 0).trans rfl, (blk_cell BK172.out 1).trans rfl, (blk_cell BK172.out 2).trans rfl⟩ (fun hHeld => ?_);refine with_tabW textpatch_Apply_0.tab14 textpatch_Apply_0.bits14 (fun HT_ HW_ => ?_)
                                    generalize w67.drew = w69 at HO_8 BK161 BK162 BK165 BK172 HB HR177 hHeld ⊢
                                    refine pure_ (i := 0) (N := some 51) (v := ?_) (a' := ?_) #[true, false, false, false, false, false, false, false, false, false, false] rfl rfl (any_of HT_.out (by kernel_rfl)) (fun _ _ _ h => h) (Or.inl ⟨by rfl, ?_⟩) ?_ ?_
                                    rotate_left
                                    · intro w'
                                      go_simp
                                      with_reducible rfl
                                    rotate_left
                                    · simp only [Act.put, sA, sB, sC, i64_w, i32_w]
                                      rfl
                                    refine pure_ (i := 1) (N := some 52) (v := ?_) (a' := ?_) #[true, true, false, false, false, false, false, false, false, false, false] rfl rfl (any_of HT_.out (by kernel_rfl)) (fun _ _ _ h => h) (Or.inl ⟨by rfl, ?_⟩) ?_ ?_
                                    rotate_left
                                    · intro w'
                                      go_simp
                                      with_reducible rfl
                                    rotate_left
                                    · simp only [Act.put, sA, sB, sC, i64_w, i32_w]
                                      rfl
                                    refine pure_ (i := 2) (N := some 53) (v := ?_) (a' := ?_) #[true, true, true, false, false, false, false, false, false, false, false] rfl rfl (any_of HT_.out (by kernel_rfl)) (fun _ _ _ h => h) (Or.inl ⟨by rfl, ?_⟩) ?_ ?_
                                    rotate_left
                                    · intro w'
                                      go_simp
                                      with_reducible rfl
                                    rotate_left
                                    · simp only [Act.put, sA, sB, sC, i64_w, i32_w]
                                      rfl
                                    refine pure_ (i := 3) (N := some 54) (v := ?_) (a' := ?_) #[true, true, true, true, false, false, false, false, false, false, false] rfl rfl (any_of HT_.out (by kernel_rfl)) (fun _ _ _ h => h) (Or.inl ⟨by rfl, ?_⟩) ?_ ?_
                                    rotate_left
                                    · intro w'
                                      go_simp
                                      with_reducible rfl
                                    rotate_left
                                    · simp only [Act.put, sA, sB, sC, i64_w, i32_w]
                                      rfl
                                    refine pure_ (i := 7) (N := some 58) (v := ?_) (a' := ?_) #[true, true, true, true, false, false, false, true, false, false, false] rfl rfl (any_of HT_.out (by kernel_rfl)) (fun _ _ _ h => h) (Or.inl ⟨by rfl, ?_⟩) ?_ ?_
                                    rotate_left
                                    · intro w'
                                      go_simp
                                      with_reducible rfl
                                    rotate_left
                                    · simp only [Act.put, sA, sB, sC, i64_w, i32_w]
                                      rfl
                                    refine take_ (i := 4) (N := some 55) (v := ?_) (a' := ?_) #[true, true, true, true, true, false, false, true, false, false, false] rfl rfl (take_ofW HT_.out HW_.out (by kernel_rfl)) (fun _ _ _ h => h) (Or.inl ⟨by rfl, ?_⟩) hHeld ?_ ?_
                                    rotate_left
                                    · rintro w' ⟨s0, s1, s2⟩
                                      go_simp
                                      with_reducible rfl
                                    rotate_left
                                    · simp only [Act.put, sA, sB, sC, i64_w, i32_w]
                                      rfl
                                    refine pure_ (i := 5) (N := some 56) (v := ?_) (a' := ?_) #[true, true, true, true, true, true, false, true, false, false, false] rfl rfl (any_of HT_.out (by kernel_rfl)) (fun _ _ _ h => h) (Or.inl ⟨by rfl, ?_⟩) ?_ ?_
                                    rotate_left
                                    · intro w'
                                      go_simp
                                      with_reducible rfl
                                    rotate_left
                                    · simp only [Act.put, sA, sB, sC, i64_w, i32_w]
                                      rfl
                                    refine take_ (i := 8) (N := some 59) (v := ?_) (a' := ?_) #[true, true, true, true, true, true, false, true, true, false, false] rfl rfl (take_ofW HT_.out HW_.out (by kernel_rfl)) (fun _ _ _ h => h) (Or.inl ⟨by rfl, ?_⟩) hHeld ?_ ?_
                                    rotate_left
                                    · rintro w' ⟨s0, s1, s2⟩
                                      go_simp
                                      with_reducible rfl
                                    rotate_left
                                    · simp only [Act.put, sA, sB, sC, i64_w, i32_w]
                                      rfl
                                    refine one_ (i := 6) (N := some 57) #[true, true, true, true, true, true, true, true, true, false, false] rfl rfl (one_of HT_.out (by kernel_rfl)) (by decide) (fun K hK => ?_)
                                    refine Kd.R_append_rows_step Kd.string (w0 := w) w.heap.size (by rfl) (.tmp 51) (.tmp 56) 25 9 (.string ⟨#[]⟩) 16 rfl Try.underlying25 info9 rfl (by decide) (by omega) u8 x8_1 ((l1.take (((rd_T47 l0_0 x27_1).f0) : Int).toNat).drop (x9_1 : Int).toNat) _ _ _ (fun _ => True) (fun _ => False) rfl rfl ?aO ?aR (fun _ _ h => h) (fun _ h => h.elim) ?aF ?aB ?aS ?aL ?_
                                    (case aR => first|(rw [← show ((l1.take (((rd_T47 l0_0 x27_1).f0) : Int).toNat).drop (x9_1 : Int).toNat).length = (((rd_T47 l0_0 x27_1).f0).toNat - x9_1.toNat) from (by rw [List.length_drop, List.length_take];have h_ : (((rd_T47 l0_0 x27_1).f0) : Int) ≤ (l1.length : Int) := of_decide_eq_true (by first|(with_reducible assumption)|assumption);omega)];repeat (first|exact (Kd.C_below HR177.out HB.out)|(with_reducible refine Kd.C_alloc ?_ _)|(with_reducible refine Kd.C_drewN ?_ _)|(with_reducible refine Kd.C_drew ?_)))|(repeat (first|exact (Kd.C_below HR177.out HB.out)|(with_reducible refine Kd.C_alloc ?_ _)|(with_reducible refine Kd.C_drewN ?_ _)|(with_reducible refine Kd.C_drew ?_))))
                                    (case aB => exact (by repeat (first|(with_reducible first|exact HB.out|apply eA|apply eN|apply eD|refine below_set ?_ GE161.out|refine below_set ?_ GE162.out|refine below_set ?_ GE165.out|refine below_set ?_ GE172.out)|exact HB.out)))
                                    (case aF => exact (fun _ _ => trivial))
                                    (case aO => exact (by (with_reducible repeat first|apply rA|apply rN|apply rD);exact HO_8.out))
                                    (case aS => exact (below_size (by repeat (first|(with_reducible first|exact HB.out|apply eA|apply eN|apply eD|refine below_set ?_ GE161.out|refine below_set ?_ GE162.out|refine below_set ?_ GE165.out|refine below_set ?_ GE172.out)|exact HB.out))))
                                    (case aL => have := LMc56.out;have hlx_ := (show ((l1.take (((rd_T47 l0_0 x27_1).f0) : Int).toNat).drop (x9_1 : Int).toNat).length = (((rd_T47 l0_0 x27_1).f0).toNat - x9_1.toNat) from (by rw [List.length_drop, List.length_take];have h_ : (((rd_T47 l0_0 x27_1).f0) : Int) ≤ (l1.length : Int) := of_decide_eq_true (by first|(with_reducible assumption)|assumption);omega));omega)
                                    intro v179 w71 ho hb hg hat
                                    rw [← Ny178.out] at ho
                                    have n0_ := Aside0.mk (blk_grown (g := gb161) (o := .cells #[.slice (some ad171) l0_0.length c0_0] 24 (0, 0)) (by (with_reducible repeat first|apply bN|apply bD|apply bA);exact BK161.out) hg (Kd.R_ne HO_8.out BK161.out (by decide)))
                                    have n1_ := Aside0.mk (blk_grown (g := gb162) (o := .cells #[.int .i64 x163000_1, .int .i64 x163001_1] 27 (0, 0)) (by (with_reducible repeat first|apply bN|apply bD|apply bA);exact BK162.out) hg (Kd.R_ne HO_8.out BK162.out (by decide)))
                                    have n2_ := Aside0.mk (blk_grown (g := gb165) (o := .cells #[.int .i64 t163, .int .i64 t164] 27 (0, 0)) (by (with_reducible repeat first|apply bN|apply bD|apply bA);exact BK165.out) hg (Kd.R_ne HO_8.out BK165.out (by decide)))
                                    have n3_ := Aside0.mk (blk_grown (g := gb172) (o := .cells #[.int .i64 ((rd_T47 l0_0 x27_1).f0), .slice A171_1 ((rd_T47 l0_0 x27_1).f1).length c171_1, .slice A171_2 ((rd_T47 l0_0 x27_1).f2).length c171_2] 47 (0, 0)) (by (with_reducible repeat first|apply bN|apply bD|apply bA);exact BK172.out) hg (Kd.R_ne HO_8.out BK172.out (by decide)))
                                    have n4_ := Aside0.mk (hb)
                                    have n5_ := Aside0.mk (ho)
                                    clear BK161
                                    clear BK162
                                    clear BK165
                                    clear BK172
                                    clear HB
                                    clear HO_8
                                    have BK161 := n0_
                                    have BK162 := n1_
                                    have BK165 := n2_
                                    have BK172 := n3_
                                    have HB := n4_
                                    have HO180 := n5_
                                    clear n0_ n1_ n2_ n3_ n4_ n5_
                                    clear ho hb hg hat
                                    refine hK.out _ _ ⟨(blk_cell BK172.out 0).trans rfl, (blk_cell BK172.out 1).trans rfl, (blk_cell BK172.out 2).trans rfl⟩ (fun hHeld => ?_)
                                    clear hK K
                                    refine norm_ (a' := ?_) ?_ ?_
                                    rotate_left
                                    · show Act.put _ (some 57) _ = _
                                      simp only [Act.put, sA, sB, sC, i64_w, i32_w]
                                      rfl
                                    refine one_ (i := 9) (N := some 60) #[true, true, true, true, true, true, true, true, true, true, false] rfl rfl (one_of HT_.out (by kernel_rfl)) (by decide) (fun K hK => ?_)
                                    refine Kd.R_append_rows_step Kd.string (w0 := w) w.heap.size (by rfl) (.tmp 57) (.tmp 59) 25 9 (.string ⟨#[]⟩) 16 rfl Try.underlying25 info9 rfl (by decide) (by omega) v179 y178 ((rd_T47 l0_0 x27_1).f2) _ _ _ (fun _ => True) (fun _ => False) rfl rfl ?aO ?aR (fun _ _ h => h) (fun _ h => h.elim) ?aF ?aB ?aS ?aL ?_
                                    (case aR => repeat (first|exact (Kd.C_below HR171_2.out HB.out)|(with_reducible refine Kd.C_alloc ?_ _)|(with_reducible refine Kd.C_drewN ?_ _)|(with_reducible refine Kd.C_drew ?_)))
                                    (case aB => exact (by repeat (first|(with_reducible first|exact HB.out|apply eA|apply eN|apply eD|refine below_set ?_ GE161.out|refine below_set ?_ GE162.out|refine below_set ?_ GE165.out|refine below_set ?_ GE172.out)|exact HB.out)))
                                    (case aF => exact (fun _ _ => trivial))
                                    (case aO => exact (by (with_reducible repeat first|apply rA|apply rN|apply rD);exact HO180.out))
                                    (case aS => exact (below_size (by repeat (first|(with_reducible first|exact HB.out|apply eA|apply eN|apply eD|refine below_set ?_ GE161.out|refine below_set ?_ GE162.out|refine below_set ?_ GE165.out|refine below_set ?_ GE172.out)|exact HB.out))))
                                    (case aL => have := LMc57.out;omega)
                                    intro v182 w72 ho hb hg hat
                                    rw [← Ny181.out] at ho
                                    have n0_ := Aside0.mk (blk_grown (g := gb161) (o := .cells #[.slice (some ad171) l0_0.length c0_0] 24 (0, 0)) (by (with_reducible repeat first|apply bN|apply bD|apply bA);exact BK161.out) hg (Kd.R_ne HO180.out BK161.out (by decide)))
                                    have n1_ := Aside0.mk (blk_grown (g := gb162) (o := .cells #[.int .i64 x163000_1, .int .i64 x163001_1] 27 (0, 0)) (by (with_reducible repeat first|apply bN|apply bD|apply bA);exact BK162.out) hg (Kd.R_ne HO180.out BK162.out (by decide)))
                                    have n2_ := Aside0.mk (blk_grown (g := gb165) (o := .cells #[.int .i64 t163, .int .i64 t164] 27 (0, 0)) (by (with_reducible repeat first|apply bN|apply bD|apply bA);exact BK165.out) hg (Kd.R_ne HO180.out BK165.out (by decide)))
                                    have n3_ := Aside0.mk (blk_grown (g := gb172) (o := .cells #[.int .i64 ((rd_T47 l0_0 x27_1).f0), .slice A171_1 ((rd_T47 l0_0 x27_1).f1).length c171_1, .slice A171_2 ((rd_T47 l0_0 x27_1).f2).length c171_2] 47 (0, 0)) (by (with_reducible repeat first|apply bN|apply bD|apply bA);exact BK172.out) hg (Kd.R_ne HO180.out BK172.out (by decide)))
                                    have n4_ := Aside0.mk (hb)
                                    have n5_ := Aside0.mk (ho)
                                    clear BK161
                                    clear BK162
                                    clear BK165
                                    clear BK172
                                    clear HB
                                    clear HO180
                                    have BK161 := n0_
                                    have BK162 := n1_
                                    have BK165 := n2_
                                    have BK172 := n3_
                                    have HB := n4_
                                    have HO183 := n5_
                                    clear n0_ n1_ n2_ n3_ n4_ n5_
                                    clear ho hb hg hat
                                    refine hK.out _ _ ⟨(blk_cell BK172.out 0).trans rfl, (blk_cell BK172.out 1).trans rfl, (blk_cell BK172.out 2).trans rfl⟩ (fun hHeld => ?_)
                                    clear hK K
                                    refine norm_ (a' := ?_) ?_ ?_
                                    rotate_left
                                    · show Act.put _ (some 60) _ = _
                                      simp only [Act.put, sA, sB, sC, i64_w, i32_w]
                                      rfl
                                    refine pure_ (i := 10) (N := some 8) (v := ?_) (a' := ?_) #[true, true, true, true, true, true, true, true, true, true, true] rfl rfl (any_of HT_.out (by kernel_rfl)) (fun _ _ _ h => h) (Or.inl ⟨by rfl, ?_⟩) ?_ ?_
                                    rotate_left
                                    · intro w'
                                      go_simp
                                      with_reducible rfl
                                    rotate_left
                                    · simp only [Act.put, sA, sB, sC, i64_w, i32_w]
                                      rfl
                                    refine done_ (done_of HT_.out (by kernel_rfl)) ?_
                                    have hcz73_0 : w72.cell? ⟨gb172, 0, none⟩ = some (.int .i64 ((rd_T47 l0_0 x27_1).f0)) := (blk_cell BK172.out 0).trans rfl
                                    have hcz73_1 : w72.cell? ⟨gb172, 1, none⟩ = some (.slice A171_1 ((rd_T47 l0_0 x27_1).f1).length c171_1) := (blk_cell BK172.out 1).trans rfl
                                    have hcz73_2 : w72.cell? ⟨gb172, 2, none⟩ = some (.slice A171_2 ((rd_T47 l0_0 x27_1).f2).length c171_2) := (blk_cell BK172.out 2).trans rfl
                                    have hfz73_0 := blk_frozen BK172.out 0
                                    have hfz73_1 := blk_frozen BK172.out 1
                                    have hfz73_2 := blk_frozen BK172.out 2
                                    try go_wp2_with (first|((with_reducible refine gate_callee (f := 33) rfl ?_);refine goesL_ (some 62) rfl rfl Try.func33 (by kernel_rfl) rfl #[.agg #[.int .i64 ((rd_T47 l0_0 x27_1).f0), .slice A171_1 ((rd_T47 l0_0 x27_1).f1).length c171_1, .slice A171_2 ((rd_T47 l0_0 x27_1).f2).length c171_2]] rfl (by (try simp only [List.map_toArray, List.map_cons, List.map_nil]);first|done|rfl|(simp only [List.length_drop, List.length_take];rfl)) ?_;(with_reducible refine (textpatch_End.calls ((rd_T47 l0_0 x27_1).f0) _ _ ((rd_T47 l0_0 x27_1).f1) _ _ ((rd_T47 l0_0 x27_1).f2) t184 _ ?side1 ?side2 ?side3 ?side4 A58.out).mono ?_);(case side1 => repeat (first|exact (Kd.C_below HR171_1.out HB.out)|(with_reducible refine Kd.C_alloc ?_ _)|(with_reducible refine Kd.C_drewN ?_ _)|(with_reducible refine Kd.C_drew ?_)));(case side2 => exact HC171_1.out);(case side3 => repeat (first|exact (Kd.C_below HR171_2.out HB.out)|(with_reducible refine Kd.C_alloc ?_ _)|(with_reducible refine Kd.C_drewN ?_ _)|(with_reducible refine Kd.C_drew ?_)));(case side4 => exact HC171_2.out);rintro e w74 ⟨rfl, hb⟩;refine ⟨_, rfl, ?_⟩;have n0_ := Aside0.mk (Kd.R_below (by (with_reducible repeat first|apply rA|apply rN|apply rD);exact HO183.out) hb);have n1_ := Aside0.mk (blk_below (g := gb161) (o := .cells #[.slice (some ad171) l0_0.length c0_0] 24 (0, 0)) (by (with_reducible repeat first|apply bN|apply bD|apply bA);exact BK161.out) hb);have n2_ := Aside0.mk (blk_below (g := gb162) (o := .cells #[.int .i64 x163000_1, .int .i64 x163001_1] 27 (0, 0)) (by (with_reducible repeat first|apply bN|apply bD|apply bA);exact BK162.out) hb);have n3_ := Aside0.mk (blk_below (g := gb165) (o := .cells #[.int .i64 t163, .int .i64 t164] 27 (0, 0)) (by (with_reducible repeat first|apply bN|apply bD|apply bA);exact BK165.out) hb);have n4_ := Aside0.mk (blk_below (g := gb172) (o := .cells #[.int .i64 ((rd_T47 l0_0 x27_1).f0), .slice A171_1 ((rd_T47 l0_0 x27_1).f1).length c171_1, .slice A171_2 ((rd_T47 l0_0 x27_1).f2).length c171_2] 47 (0, 0)) (by (with_reducible repeat first|apply bN|apply bD|apply bA);exact BK172.out) hb);have n5_ := Aside0.mk (below_step (by repeat (first|(with_reducible first|exact HB.out|apply eA|apply eN|apply eD|refine below_set ?_ GE161.out|refine below_set ?_ GE162.out|refine below_set ?_ GE165.out|refine below_set ?_ GE172.out)|exact HB.out)) hb);clear HO183;clear BK161;clear BK162;clear BK165;clear BK172;clear HB;have HO183 := n0_;have BK161 := n1_;have BK162 := n2_;have BK165 := n3_;have BK172 := n4_;have HB := n5_;clear n0_ n1_ n2_ n3_ n4_ n5_;(try clear hb);(try clear hb2);(try clear hk);(try clear hi)))
                                    go_roundg k1
                                    case measure => have := HK1.out;omega
                                    case rel => exact ⟨(y181), (t184), (wrap64 (x27_1 + 1)), (x163000_1), (x163001_1), (by first|rfl|(simp;done)|(simp [*];done)), (by first|rfl|(simp;done)|(simp [*];done)), H', ⟨by have := HK1.out;omega⟩, ⟨by (with_reducible repeat first|apply rA|apply rN|apply rD);exact HO183.out⟩, ⟨by (with_reducible repeat first|apply bN|apply bD|apply bA);exact BK161.out⟩, ⟨by (with_reducible repeat first|apply bN|apply bD|apply bA);exact BK162.out⟩, ⟨by (with_reducible repeat first|apply bN|apply bD|apply bA);exact BK165.out⟩, ⟨by repeat (first|(with_reducible first|exact HB.out|apply eA|apply eN|apply eD|refine below_set ?_ GE161.out|refine below_set ?_ GE162.out|refine below_set ?_ GE165.out|refine below_set ?_ GE172.out)|exact HB.out)⟩⟩
                                  · rw [if_neg c57] at H
                                    exact absurd H (by simp)
                                · rw [if_neg c56] at H
                                  exact absurd H (by simp)
                              · rw [if_neg c55] at H
                                exact absurd H (by simp)
                            · rw [if_neg c54] at H
                              exact absurd H (by simp)
                          · rw [if_neg c53] at H
                            exact absurd H (by simp)
                        · replace c52 := Bool.eq_false_iff.mpr c52
                          subst c52
                          have H1 : (some (([] : List ByteArray), 19, x27_1)) = some (r1, r2, r3) := by rw [if_neg (show ¬ (false = true) by decide)] at H;exact H
                          clear H
                          have H := H1
                          clear H1
                          simp only [Option.some.injEq, Prod.mk.injEq] at H
                          obtain ⟨rfl, rfl, rfl⟩ := H
                          have p171 : 0 ≤ (x27_1 : Int) := of_decide_eq_true (by first|(with_reducible assumption)|assumption)
                          have q171 : x27_1 < (l0_0.length : Int) := of_decide_eq_true (by first|(with_reducible assumption)|assumption)
                          obtain ⟨ad171, A171_1, c171_1, A171_2, c171_2, e171, hx171_0, hx171_1, hx171_2, hl171_1, hi171_1, hl171_2, hi171_2⟩ := at_T47 HR0_0.out x27_1 p171 q171
                          cases e171
                          replace hx171_0 := (HB.out.cell (World.block_lt_of_cell? w _ hx171_0)).trans hx171_0
                          replace hx171_1 := (HB.out.cell (World.block_lt_of_cell? w _ hx171_1)).trans hx171_1
                          replace hx171_2 := (HB.out.cell (World.block_lt_of_cell? w _ hx171_2)).trans hx171_2
                          have HR171_1 := Aside0.mk hi171_1
                          have HC171_1 := Aside0.mk hl171_1
                          clear hi171_1 hl171_1
                          have HR171_2 := Aside0.mk hi171_2
                          have HC171_2 := Aside0.mk hl171_2
                          clear hi171_2 hl171_2
                          replace p171 := eq_true p171
                          replace q171 := eq_true q171
                          try go_wp2_with (first|((with_reducible refine gate_dst (N := 11) rfl ?_);refine box_event ?hg (N := 11) ?hd (cs := #[.int .i64 0, .slice none 0 0, .slice none 0 0]) (t := 47) ?hr ?_;(case hd => rfl);(case hg => rfl);(case hr => first|(go_simp;done)|(go_simp;rfl));intro gb172 hg w75 hbox hb;have n0_ := Aside0.mk (Kd.R_below (by (with_reducible repeat first|apply rA|apply rN|apply rD);exact HO_8.out) hb);have n1_ := Aside0.mk (blk_below (g := gb161) (o := .cells #[.slice (some ad171) l0_0.length c0_0] 24 (0, 0)) (by (with_reducible repeat first|apply bN|apply bD|apply bA);exact BK161.out) hb);have n2_ := Aside0.mk (blk_below (g := gb162) (o := .cells #[.int .i64 x163000_1, .int .i64 x163001_1] 27 (0, 0)) (by (with_reducible repeat first|apply bN|apply bD|apply bA);exact BK162.out) hb);have n3_ := Aside0.mk (blk_below (g := gb165) (o := .cells #[.int .i64 t163, .int .i64 t164] 27 (0, 0)) (by (with_reducible repeat first|apply bN|apply bD|apply bA);exact BK165.out) hb);have n4_ := Aside0.mk (below_step (by repeat (first|(with_reducible first|exact HB.out|apply eA|apply eN|apply eD|refine below_set ?_ GE161.out|refine below_set ?_ GE162.out|refine below_set ?_ GE165.out)|exact HB.out)) hb);have n5_ := Aside0.mk (hbox);have n6_ := Aside0.mk ((by rw [hg];exact (below_size (by repeat (first|(with_reducible first|exact HB.out|apply eA|apply eN|apply eD|refine below_set ?_ GE161.out|refine below_set ?_ GE162.out|refine below_set ?_ GE165.out)|exact HB.out))) : w.heap.size ≤ gb172));have n7_ := Aside0.mk ((by rw [hg];exact (below_size (by repeat (first|(with_reducible first|exact HB.out|apply eA|apply eN|apply eD|refine below_set ?_ GE161.out|refine below_set ?_ GE162.out|refine below_set ?_ GE165.out)|exact HB.out))) : w.heap.size ≤ gb172));have n8_ := Aside0.mk ((by rw [hg];exact Nat.ne_of_lt (blk_lt (g := gb161) (o := .cells #[.slice (some ad171) l0_0.length c0_0] 24 (0, 0)) (by (with_reducible repeat first|apply bN|apply bD|apply bA);exact BK161.out)) : gb161 ≠ gb172));have n9_ := Aside0.mk ((by rw [hg];exact Nat.ne_of_gt (blk_lt (g := gb161) (o := .cells #[.slice (some ad171) l0_0.length c0_0] 24 (0, 0)) (by (with_reducible repeat first|apply bN|apply bD|apply bA);exact BK161.out)) : gb172 ≠ gb161));have n10_ := Aside0.mk ((by rw [hg];exact Nat.ne_of_lt (blk_lt (g := gb162) (o := .cells #[.int .i64 x163000_1, .int .i64 x163001_1] 27 (0, 0)) (by (with_reducible repeat first|apply bN|apply bD|apply bA);exact BK162.out)) : gb162 ≠ gb172));have n11_ := Aside0.mk ((by rw [hg];exact Nat.ne_of_gt (blk_lt (g := gb162) (o := .cells #[.int .i64 x163000_1, .int .i64 x163001_1] 27 (0, 0)) (by (with_reducible repeat first|apply bN|apply bD|apply bA);exact BK162.out)) : gb172 ≠ gb162));have n12_ := Aside0.mk ((by rw [hg];exact Nat.ne_of_lt (blk_lt (g := gb165) (o := .cells #[.int .i64 t163, .int .i64 t164] 27 (0, 0)) (by (with_reducible repeat first|apply bN|apply bD|apply bA);exact BK165.out)) : gb165 ≠ gb172));have n13_ := Aside0.mk ((by rw [hg];exact Nat.ne_of_gt (blk_lt (g := gb165) (o := .cells #[.int .i64 t163, .int .i64 t164] 27 (0, 0)) (by (with_reducible repeat first|apply bN|apply bD|apply bA);exact BK165.out)) : gb172 ≠ gb165));clear HO_8;clear BK161;clear BK162;clear BK165;clear HB;have HO_8 := n0_;have BK161 := n1_;have BK162 := n2_;have BK165 := n3_;have HB := n4_;have BK172 := n5_;have GW172 := n6_;have GE172 := n7_;have NB161_172 := n8_;have NB172_161 := n9_;have NB162_172 := n10_;have NB172_162 := n11_;have NB165_172 := n12_;have NB172_165 := n13_;clear n0_ n1_ n2_ n3_ n4_ n5_ n6_ n7_ n8_ n9_ n10_ n11_ n12_ n13_;clear hb hbox hg;have hnb76 := NB172_161.out;have hnc76 := NB161_172.out;have hnb77 := NB172_162.out;have hnc77 := NB162_172.out;have hnb78 := NB172_165.out;have hnc78 := NB165_172.out;have hcz79_0 : w75.cell? ⟨gb172, 0, none⟩ = some (.int .i64 0) := (blk_cell BK172.out 0).trans rfl;have hcz79_1 : w75.cell? ⟨gb172, 1, none⟩ = some (.slice none 0 0) := (blk_cell BK172.out 1).trans rfl;have hcz79_2 : w75.cell? ⟨gb172, 2, none⟩ = some (.slice none 0 0) := (blk_cell BK172.out 2).trans rfl;have hfz79_0 := blk_frozen BK172.out 0;have hfz79_1 := blk_frozen BK172.out 1;have hfz79_2 := blk_frozen BK172.out 2))
                          have n0_ : Aside0 (Kd.R Kd.string 9 (((w75.setCell ⟨gb172, 0, none⟩ (.int .i64 ((rd_T47 l0_0 x27_1).f0))).setCell ⟨gb172, 1, none⟩ (.slice A171_1 ((rd_T47 l0_0 x27_1).f1).length c171_1)).setCell ⟨gb172, 2, none⟩ (.slice A171_2 ((rd_T47 l0_0 x27_1).f2).length c171_2)) w.heap.size (fun _ => True) u8 x8_1) := ⟨by (with_reducible repeat first|apply rA|apply rN|apply rD);exact Kd.R_mono (Kd.R_far (p := ⟨gb172, 2, none⟩) (Kd.R_far (p := ⟨gb172, 1, none⟩) (Kd.R_far (p := ⟨gb172, 0, none⟩) (Kd.R_types HO_8.out BK172.out (by decide)) (fun _ hk => hk.2) (.int .i64 ((rd_T47 l0_0 x27_1).f0))) (fun _ hk => hk.2) (.slice A171_1 ((rd_T47 l0_0 x27_1).f1).length c171_1)) (fun _ hk => hk.2) (.slice A171_2 ((rd_T47 l0_0 x27_1).f2).length c171_2)) (fun _ hk => trivial)⟩
                          have n1_ : Aside0 ((((w75.setCell ⟨gb172, 0, none⟩ (.int .i64 ((rd_T47 l0_0 x27_1).f0))).setCell ⟨gb172, 1, none⟩ (.slice A171_1 ((rd_T47 l0_0 x27_1).f1).length c171_1)).setCell ⟨gb172, 2, none⟩ (.slice A171_2 ((rd_T47 l0_0 x27_1).f2).length c171_2)).heap[gb161]? = some (.cells #[.slice (some ad171) l0_0.length c0_0] 24 (0, 0))) := ⟨by (with_reducible repeat first|apply bN|apply bD|apply bA);refine blk_far ?_ NB161_172.out _;(with_reducible repeat first|apply bN|apply bD|apply bA);refine blk_far ?_ NB161_172.out _;(with_reducible repeat first|apply bN|apply bD|apply bA);refine blk_far ?_ NB161_172.out _;(with_reducible repeat first|apply bN|apply bD|apply bA);exact BK161.out⟩
                          have n2_ : Aside0 ((((w75.setCell ⟨gb172, 0, none⟩ (.int .i64 ((rd_T47 l0_0 x27_1).f0))).setCell ⟨gb172, 1, none⟩ (.slice A171_1 ((rd_T47 l0_0 x27_1).f1).length c171_1)).setCell ⟨gb172, 2, none⟩ (.slice A171_2 ((rd_T47 l0_0 x27_1).f2).length c171_2)).heap[gb162]? = some (.cells #[.int .i64 x163000_1, .int .i64 x163001_1] 27 (0, 0))) := ⟨by (with_reducible repeat first|apply bN|apply bD|apply bA);refine blk_far ?_ NB162_172.out _;(with_reducible repeat first|apply bN|apply bD|apply bA);refine blk_far ?_ NB162_172.out _;(with_reducible repeat first|apply bN|apply bD|apply bA);refine blk_far ?_ NB162_172.out _;(with_reducible repeat first|apply bN|apply bD|apply bA);exact BK162.out⟩
                          have n3_ : Aside0 ((((w75.setCell ⟨gb172, 0, none⟩ (.int .i64 ((rd_T47 l0_0 x27_1).f0))).setCell ⟨gb172, 1, none⟩ (.slice A171_1 ((rd_T47 l0_0 x27_1).f1).length c171_1)).setCell ⟨gb172, 2, none⟩ (.slice A171_2 ((rd_T47 l0_0 x27_1).f2).length c171_2)).heap[gb165]? = some (.cells #[.int .i64 t163, .int .i64 t164] 27 (0, 0))) := ⟨by (with_reducible repeat first|apply bN|apply bD|apply bA);refine blk_far ?_ NB165_172.out _;(with_reducible repeat first|apply bN|apply bD|apply bA);refine blk_far ?_ NB165_172.out _;(with_reducible repeat first|apply bN|apply bD|apply bA);refine blk_far ?_ NB165_172.out _;(with_reducible repeat first|apply bN|apply bD|apply bA);exact BK165.out⟩
                          have n4_ : Aside0 ((((w75.setCell ⟨gb172, 0, none⟩ (.int .i64 ((rd_T47 l0_0 x27_1).f0))).setCell ⟨gb172, 1, none⟩ (.slice A171_1 ((rd_T47 l0_0 x27_1).f1).length c171_1)).setCell ⟨gb172, 2, none⟩ (.slice A171_2 ((rd_T47 l0_0 x27_1).f2).length c171_2)).heap[gb172]? = some (.cells #[.int .i64 ((rd_T47 l0_0 x27_1).f0), .slice A171_1 ((rd_T47 l0_0 x27_1).f1).length c171_1, .slice A171_2 ((rd_T47 l0_0 x27_1).f2).length c171_2] 47 (0, 0))) := ⟨by (with_reducible repeat first|apply bN|apply bD|apply bA);refine blk_put (cs := #[.int .i64 ((rd_T47 l0_0 x27_1).f0), .slice A171_1 ((rd_T47 l0_0 x27_1).f1).length c171_1, .slice none 0 0]) ?_ 2 _ rfl;(with_reducible repeat first|apply bN|apply bD|apply bA);refine blk_put (cs := #[.int .i64 ((rd_T47 l0_0 x27_1).f0), .slice none 0 0, .slice none 0 0]) ?_ 1 _ rfl;(with_reducible repeat first|apply bN|apply bD|apply bA);refine blk_put (cs := #[.int .i64 0, .slice none 0 0, .slice none 0 0]) ?_ 0 _ rfl;(with_reducible repeat first|apply bN|apply bD|apply bA);exact BK172.out⟩
                          have n5_ : Aside0 (Below w.heap.size w (((w75.setCell ⟨gb172, 0, none⟩ (.int .i64 ((rd_T47 l0_0 x27_1).f0))).setCell ⟨gb172, 1, none⟩ (.slice A171_1 ((rd_T47 l0_0 x27_1).f1).length c171_1)).setCell ⟨gb172, 2, none⟩ (.slice A171_2 ((rd_T47 l0_0 x27_1).f2).length c171_2))) := ⟨by repeat (first|(with_reducible first|exact HB.out|apply eA|apply eN|apply eD|refine below_set ?_ GE161.out|refine below_set ?_ GE162.out|refine below_set ?_ GE165.out|refine below_set ?_ GE172.out)|exact HB.out)⟩
                          (try clear HO_8)
                          (try clear BK161)
                          (try clear BK162)
                          (try clear BK165)
                          (try clear BK172)
                          (try clear HB)
                          generalize (((w75.setCell ⟨gb172, 0, none⟩ (.int .i64 ((rd_T47 l0_0 x27_1).f0))).setCell ⟨gb172, 1, none⟩ (.slice A171_1 ((rd_T47 l0_0 x27_1).f1).length c171_1)).setCell ⟨gb172, 2, none⟩ (.slice A171_2 ((rd_T47 l0_0 x27_1).f2).length c171_2)) = w80 at n0_ n1_ n2_ n3_ n4_ n5_ ⊢
                          have HO_8 := n0_
                          have BK161 := n1_
                          have BK162 := n2_
                          have BK165 := n3_
                          have BK172 := n4_
                          have HB := n5_
                          clear n0_ n1_ n2_ n3_ n4_ n5_
                          have n0_ := Aside0.mk (Kd.R_drew HO_8.out)
                          have n1_ := Aside0.mk (blk_drew BK161.out)
                          have n2_ := Aside0.mk (blk_drew BK162.out)
                          have n3_ := Aside0.mk (blk_drew BK165.out)
                          have n4_ := Aside0.mk (blk_drew BK172.out)
                          have n5_ := Aside0.mk (below_drew1 HB.out)
                          clear HO_8
                          clear BK161
                          clear BK162
                          clear BK165
                          clear BK172
                          clear HB
                          have HO_8 := n0_
                          have BK161 := n1_
                          have BK162 := n2_
                          have BK165 := n3_
                          have BK172 := n4_
                          have HB := n5_
                          clear n0_ n1_ n2_ n3_ n4_ n5_
                          refine start_ (n := 17) (S := fun w' => w'.cell? ⟨gb172, 0, none⟩ = some (.int .i64 ((rd_T47 l0_0 x27_1).f0)) ∧ w'.cell? ⟨gb172, 1, none⟩ = some (.slice A171_1 ((rd_T47 l0_0 x27_1).f1).length c171_1) ∧ w'.cell? ⟨gb172, 2, none⟩ = some (.slice A171_2 ((rd_T47 l0_0 x27_1).f2).length c171_2)) (ds := []) #[false, false, false, false, false, false, false, false, false, false, false, false, false, false, false, false, false] (by kernel_rfl) rfl rfl ⟨(blk_cell BK172.out 0).trans rfl, (blk_cell BK172.out 1).trans rfl, (blk_cell BK172.out 2).trans rfl⟩ (fun hHeld => ?_);refine with_tabW textpatch_Apply_0.tab12 textpatch_Apply_0.bits12 (fun HT_ HW_ => ?_)
                          generalize w80.drew = w81 at HO_8 BK161 BK162 BK165 BK172 HB hHeld ⊢
                          refine pure_ (i := 2) (N := some 34) (v := ?_) (a' := ?_) #[false, false, true, false, false, false, false, false, false, false, false, false, false, false, false, false, false] rfl rfl (any_of HT_.out (by kernel_rfl)) (fun _ _ _ h => h) (Or.inl ⟨by rfl, ?_⟩) ?_ ?_
                          rotate_left
                          · intro w'
                            go_simp
                            with_reducible rfl
                          rotate_left
                          · simp only [Act.put, sA, sB, sC, i64_w, i32_w]
                            rfl
                          refine pure_ (i := 3) (N := some 35) (v := ?_) (a' := ?_) #[false, false, true, true, false, false, false, false, false, false, false, false, false, false, false, false, false] rfl rfl (any_of HT_.out (by kernel_rfl)) (fun _ _ _ h => h) (Or.inl ⟨by rfl, ?_⟩) ?_ ?_
                          rotate_left
                          · intro w'
                            go_simp
                            with_reducible rfl
                          rotate_left
                          · simp only [Act.put, sA, sB, sC, i64_w, i32_w]
                            rfl
                          refine take_ (i := 0) (N := some 32) (v := ?_) (a' := ?_) #[true, false, true, true, false, false, false, false, false, false, false, false, false, false, false, false, false] rfl rfl (take_ofW HT_.out HW_.out (by kernel_rfl)) (fun _ _ _ h => h) (Or.inl ⟨by rfl, ?_⟩) hHeld ?_ ?_
                          rotate_left
                          · rintro w' ⟨s0, s1, s2⟩
                            go_simp
                            with_reducible rfl
                          rotate_left
                          · simp only [Act.put, sA, sB, sC, i64_w, i32_w]
                            rfl
                          refine one_ (i := 1) (N := some 33) #[true, true, true, true, false, false, false, false, false, false, false, false, false, false, false, false, false] rfl rfl (one_of HT_.out (by kernel_rfl)) (by decide) (fun K hK => ?_)
                          refine goes_ Try.func33 (by kernel_rfl) rfl #[.agg #[.int .i64 ((rd_T47 l0_0 x27_1).f0), .slice A171_1 ((rd_T47 l0_0 x27_1).f1).length c171_1, .slice A171_2 ((rd_T47 l0_0 x27_1).f2).length c171_2]] (by rfl) rfl rfl (by (try simp only [List.map_toArray, List.map_cons, List.map_nil]);first|done|rfl|(simp only [List.length_drop, List.length_take];rfl)) ?_
                          with_reducible refine (textpatch_End.calls ((rd_T47 l0_0 x27_1).f0) _ _ ((rd_T47 l0_0 x27_1).f1) _ _ ((rd_T47 l0_0 x27_1).f2) t173 _ ?side1 ?side2 ?side3 ?side4 A34.out).mono ?_
                          (case side1 => repeat (first|exact (Kd.C_below HR171_1.out HB.out)|(with_reducible refine Kd.C_alloc ?_ _)|(with_reducible refine Kd.C_drewN ?_ _)|(with_reducible refine Kd.C_drew ?_)))
                          (case side2 => exact HC171_1.out)
                          (case side3 => repeat (first|exact (Kd.C_below HR171_2.out HB.out)|(with_reducible refine Kd.C_alloc ?_ _)|(with_reducible refine Kd.C_drewN ?_ _)|(with_reducible refine Kd.C_drew ?_)))
                          (case side4 => exact HC171_2.out)
                          rintro e w82 ⟨rfl, hb⟩
                          refine ⟨_, rfl, ?_⟩
                          have n0_ := Aside0.mk (Kd.R_below (by (with_reducible repeat first|apply rA|apply rN|apply rD);exact HO_8.out) hb)
                          have n1_ := Aside0.mk (blk_below (g := gb161) (o := .cells #[.slice (some ad171) l0_0.length c0_0] 24 (0, 0)) (by (with_reducible repeat first|apply bN|apply bD|apply bA);exact BK161.out) hb)
                          have n2_ := Aside0.mk (blk_below (g := gb162) (o := .cells #[.int .i64 x163000_1, .int .i64 x163001_1] 27 (0, 0)) (by (with_reducible repeat first|apply bN|apply bD|apply bA);exact BK162.out) hb)
                          have n3_ := Aside0.mk (blk_below (g := gb165) (o := .cells #[.int .i64 t163, .int .i64 t164] 27 (0, 0)) (by (with_reducible repeat first|apply bN|apply bD|apply bA);exact BK165.out) hb)
                          have n4_ := Aside0.mk (blk_below (g := gb172) (o := .cells #[.int .i64 ((rd_T47 l0_0 x27_1).f0), .slice A171_1 ((rd_T47 l0_0 x27_1).f1).length c171_1, .slice A171_2 ((rd_T47 l0_0 x27_1).f2).length c171_2] 47 (0, 0)) (by (with_reducible repeat first|apply bN|apply bD|apply bA);exact BK172.out) hb)
                          have n5_ := Aside0.mk (below_step (by repeat (first|(with_reducible first|exact HB.out|apply eA|apply eN|apply eD|refine below_set ?_ GE161.out|refine below_set ?_ GE162.out|refine below_set ?_ GE165.out|refine below_set ?_ GE172.out)|exact HB.out)) hb)
                          clear HO_8
                          clear BK161
                          clear BK162
                          clear BK165
                          clear BK172
                          clear HB
                          have HO_8 := n0_
                          have BK161 := n1_
                          have BK162 := n2_
                          have BK165 := n3_
                          have BK172 := n4_
                          have HB := n5_
                          clear n0_ n1_ n2_ n3_ n4_ n5_
                          (try clear hb)
                          (try clear hb2)
                          (try clear hk)
                          (try clear hi)
                          refine hK.out _ _ ⟨(blk_cell BK172.out 0).trans rfl, (blk_cell BK172.out 1).trans rfl, (blk_cell BK172.out 2).trans rfl⟩ (fun hHeld => ?_)
                          clear hK K
                          refine norm_ (a' := ?_) ?_ ?_
                          rotate_left
                          · show Act.put _ (some 33) _ = _
                            simp only [Act.put, sA, sB, sC, i64_w, i32_w]
                            rfl
                          refine pure_ (i := 4) (N := some 36) (v := ?_) (a' := ?_) #[true, true, true, true, true, false, false, false, false, false, false, false, false, false, false, false, false] rfl rfl (any_of HT_.out (by kernel_rfl)) (fun _ _ _ h => h) (Or.inl ⟨by rfl, ?_⟩) ?_ ?_
                          rotate_left
                          · intro w'
                            go_simp
                            with_reducible rfl
                          rotate_left
                          · simp only [Act.put, sA, sB, sC, i64_w, i32_w]
                            rfl
                          refine pure_ (i := 5) (N := some 37) (v := ?_) (a' := ?_) #[true, true, true, true, true, true, false, false, false, false, false, false, false, false, false, false, false] rfl rfl (any_of HT_.out (by kernel_rfl)) (fun _ _ _ h => h) (Or.inl ⟨by rfl, ?_⟩) ?_ ?_
                          rotate_left
                          · intro w'
                            go_simp
                            with_reducible rfl
                          rotate_left
                          · simp only [Act.put, sA, sB, sC, i64_w, i32_w]
                            rfl
                          refine pure_ (i := 6) (N := some 38) (v := ?_) (a' := ?_) #[true, true, true, true, true, true, true, false, false, false, false, false, false, false, false, false, false] rfl rfl (any_of HT_.out (by kernel_rfl)) (fun _ _ _ h => h) (Or.inl ⟨by rfl, ?_⟩) ?_ ?_
                          rotate_left
                          · intro w'
                            go_simp
                            with_reducible rfl
                          rotate_left
                          · simp only [Act.put, sA, sB, sC, i64_w, i32_w]
                            rfl
                          refine pure_ (i := 7) (N := some 39) (v := ?_) (a' := ?_) #[true, true, true, true, true, true, true, true, false, false, false, false, false, false, false, false, false] rfl rfl (any_of HT_.out (by kernel_rfl)) (fun _ _ _ h => h) (Or.inl ⟨by rfl, ?_⟩) ?_ ?_
                          rotate_left
                          · intro w'
                            go_simp
                            with_reducible rfl
                          rotate_left
                          · simp only [Act.put, sA, sB, sC, i64_w, i32_w]
                            rfl
                          refine pure_ (i := 12) (N := some 44) (v := ?_) (a' := ?_) #[true, true, true, true, true, true, true, true, false, false, false, false, true, false, false, false, false] rfl rfl (any_of HT_.out (by kernel_rfl)) (fun _ _ _ h => h) (Or.inl ⟨by rfl, ?_⟩) ?_ ?_
                          rotate_left
                          · intro w'
                            go_simp
                            with_reducible rfl
                          rotate_left
                          · simp only [Act.put, sA, sB, sC, i64_w, i32_w]
                            rfl
                          refine take_ (i := 8) (N := some 40) (v := ?_) (a' := ?_) #[true, true, true, true, true, true, true, true, true, false, false, false, true, false, false, false, false] rfl rfl (take_ofW HT_.out HW_.out (by kernel_rfl)) (fun _ _ _ h => h) (Or.inl ⟨by rfl, ?_⟩) hHeld ?_ ?_
                          rotate_left
                          · rintro w' ⟨s0, s1, s2⟩
                            go_simp
                            with_reducible rfl
                          rotate_left
                          · simp only [Act.put, sA, sB, sC, i64_w, i32_w]
                            rfl
                          refine take_ (i := 9) (N := some 41) (v := ?_) (a' := ?_) #[true, true, true, true, true, true, true, true, true, true, false, false, true, false, false, false, false] rfl rfl (take_ofW HT_.out HW_.out (by kernel_rfl)) (fun _ _ _ h => h) (Or.inl ⟨by rfl, ?_⟩) hHeld ?_ ?_
                          rotate_left
                          · rintro w' ⟨s0, s1, s2⟩
                            go_simp
                            with_reducible rfl
                          rotate_left
                          · simp only [Act.put, sA, sB, sC, i64_w, i32_w]
                            rfl
                          refine take_ (i := 13) (N := some 45) (v := ?_) (a' := ?_) #[true, true, true, true, true, true, true, true, true, true, false, false, true, true, false, false, false] rfl rfl (take_ofW HT_.out HW_.out (by kernel_rfl)) (fun _ _ _ h => h) (Or.inl ⟨by rfl, ?_⟩) hHeld ?_ ?_
                          rotate_left
                          · rintro w' ⟨s0, s1, s2⟩
                            go_simp
                            with_reducible rfl
                          rotate_left
                          · simp only [Act.put, sA, sB, sC, i64_w, i32_w]
                            rfl
                          refine one_ (i := 10) (N := some 42) #[true, true, true, true, true, true, true, true, true, true, true, false, true, true, false, false, false] rfl rfl (one_of HT_.out (by kernel_rfl)) (by decide) (fun K hK => ?_)
                          refine goes_ Try.func33 (by kernel_rfl) rfl #[.agg #[.int .i64 ((rd_T47 l0_0 x27_1).f0), .slice A171_1 ((rd_T47 l0_0 x27_1).f1).length c171_1, .slice A171_2 ((rd_T47 l0_0 x27_1).f2).length c171_2]] (by rfl) rfl rfl (by (try simp only [List.map_toArray, List.map_cons, List.map_nil]);first|done|rfl|(simp only [List.length_drop, List.length_take];rfl)) ?_
                          with_reducible refine (textpatch_End.calls ((rd_T47 l0_0 x27_1).f0) _ _ ((rd_T47 l0_0 x27_1).f1) _ _ ((rd_T47 l0_0 x27_1).f2) t174 _ ?side1 ?side2 ?side3 ?side4 A47.out).mono ?_
                          (case side1 => repeat (first|exact (Kd.C_below HR171_1.out HB.out)|(with_reducible refine Kd.C_alloc ?_ _)|(with_reducible refine Kd.C_drewN ?_ _)|(with_reducible refine Kd.C_drew ?_)))
                          (case side2 => exact HC171_1.out)
                          (case side3 => repeat (first|exact (Kd.C_below HR171_2.out HB.out)|(with_reducible refine Kd.C_alloc ?_ _)|(with_reducible refine Kd.C_drewN ?_ _)|(with_reducible refine Kd.C_drew ?_)))
                          (case side4 => exact HC171_2.out)
                          rintro e w83 ⟨rfl, hb⟩
                          refine ⟨_, rfl, ?_⟩
                          have n0_ := Aside0.mk (Kd.R_below (by (with_reducible repeat first|apply rA|apply rN|apply rD);exact HO_8.out) hb)
                          have n1_ := Aside0.mk (blk_below (g := gb161) (o := .cells #[.slice (some ad171) l0_0.length c0_0] 24 (0, 0)) (by (with_reducible repeat first|apply bN|apply bD|apply bA);exact BK161.out) hb)
                          have n2_ := Aside0.mk (blk_below (g := gb162) (o := .cells #[.int .i64 x163000_1, .int .i64 x163001_1] 27 (0, 0)) (by (with_reducible repeat first|apply bN|apply bD|apply bA);exact BK162.out) hb)
                          have n3_ := Aside0.mk (blk_below (g := gb165) (o := .cells #[.int .i64 t163, .int .i64 t164] 27 (0, 0)) (by (with_reducible repeat first|apply bN|apply bD|apply bA);exact BK165.out) hb)
                          have n4_ := Aside0.mk (blk_below (g := gb172) (o := .cells #[.int .i64 ((rd_T47 l0_0 x27_1).f0), .slice A171_1 ((rd_T47 l0_0 x27_1).f1).length c171_1, .slice A171_2 ((rd_T47 l0_0 x27_1).f2).length c171_2] 47 (0, 0)) (by (with_reducible repeat first|apply bN|apply bD|apply bA);exact BK172.out) hb)
                          have n5_ := Aside0.mk (below_step (by repeat (first|(with_reducible first|exact HB.out|apply eA|apply eN|apply eD|refine below_set ?_ GE161.out|refine below_set ?_ GE162.out|refine below_set ?_ GE165.out|refine below_set ?_ GE172.out)|exact HB.out)) hb)
                          clear HO_8
                          clear BK161
                          clear BK162
                          clear BK165
                          clear BK172
                          clear HB
                          have HO_8 := n0_
                          have BK161 := n1_
                          have BK162 := n2_
                          have BK165 := n3_
                          have BK172 := n4_
                          have HB := n5_
                          clear n0_ n1_ n2_ n3_ n4_ n5_
                          (try clear hb)
                          (try clear hb2)
                          (try clear hk)
                          (try clear hi)
                          obtain ⟨i084, hi084, _, hsz84, _⟩ := info_parts info9
                          obtain ⟨A84, hcut84, hA84, hC84⟩ := print_mid_of (P := Try.prog) Value.string (⟨#[]⟩ : ByteArray) 25 9 .i64 .i64 Try.underlying25 hi084 hsz84 A1 c1 l1 ((rd_T47 l0_0 x27_1).f0) t174 (of_decide_eq_true (by first|(with_reducible assumption)|assumption)) (by first|omega|exact of_decide_eq_true (by first|(with_reducible assumption)|assumption)) (of_decide_eq_true (by first|(with_reducible assumption)|assumption)) HC1.out
                          have HR175 := Aside0.mk (Kd.C_of_reads (h1 := fun _ => rfl) (hA84 _ (Kd.reads_of_C HR1.out)))
                          have HC175 := Aside0.mk hC84
                          clear hA84 hC84 hi084 hsz84
                          refine hK.out _ _ ⟨(blk_cell BK172.out 0).trans rfl, (blk_cell BK172.out 1).trans rfl, (blk_cell BK172.out 2).trans rfl⟩ (fun hHeld => ?_)
                          clear hK K
                          refine norm_ (a' := ?_) ?_ ?_
                          rotate_left
                          · show Act.put _ (some 42) _ = _
                            simp only [Act.put, sA, sB, sC, i64_w, i32_w]
                            rfl
                          refine pure_ (i := 11) (N := some 43) (v := ?_) (a' := ?_) #[true, true, true, true, true, true, true, true, true, true, true, true, true, true, false, false, false] rfl rfl (any_of HT_.out (by kernel_rfl)) (fun _ _ _ h => h) (Or.inl ⟨by rfl, ?_⟩) ?_ ?_
                          rotate_left
                          · intro w'
                            go_simp
                            with_reducible rfl
                          rotate_left
                          · simp only [Act.put, sA, sB, sC, i64_w, i32_w]
                            rfl
                          refine one_ (i := 14) (N := some 46) #[true, true, true, true, true, true, true, true, true, true, true, true, true, true, true, false, false] rfl rfl (one_of HT_.out (by kernel_rfl)) (by decide) (fun K hK => ?_)
                          refine goes_ Try.func34 (by kernel_rfl) rfl #[.slice A84 ((l1.take (t174 : Int).toNat).drop (((rd_T47 l0_0 x27_1).f0) : Int).toNat).length (c1 - ((rd_T47 l0_0 x27_1).f0).toNat), .slice A171_1 ((rd_T47 l0_0 x27_1).f1).length c171_1] (by rfl) rfl rfl (by (try simp only [List.map_toArray, List.map_cons, List.map_nil]);first|done|(rw [show ((l1.take (t174 : Int).toNat).drop (((rd_T47 l0_0 x27_1).f0) : Int).toNat).length = (t174.toNat - ((rd_T47 l0_0 x27_1).f0).toNat) from (by rw [List.length_drop, List.length_take];have h_ : (t174 : Int) ≤ (l1.length : Int) := of_decide_eq_true (by first|(with_reducible assumption)|assumption);omega)] <;> rfl)|rfl|(simp only [List.length_drop, List.length_take];rfl)) ?_
                          with_reducible refine (slices_Equal_string_string.calls _ _ ((l1.take (t174 : Int).toNat).drop (((rd_T47 l0_0 x27_1).f0) : Int).toNat) _ _ ((rd_T47 l0_0 x27_1).f1) false _ ?side1 ?side2 ?side3 ?side4 A51.out).mono ?_
                          (case side1 => repeat (first|exact (Kd.C_below HR175.out HB.out)|(with_reducible refine Kd.C_alloc ?_ _)|(with_reducible refine Kd.C_drewN ?_ _)|(with_reducible refine Kd.C_drew ?_)))
                          (case side2 => exact HC175.out)
                          (case side3 => repeat (first|exact (Kd.C_below HR171_1.out HB.out)|(with_reducible refine Kd.C_alloc ?_ _)|(with_reducible refine Kd.C_drewN ?_ _)|(with_reducible refine Kd.C_drew ?_)))
                          (case side4 => exact HC171_1.out)
                          rintro e w' ⟨rfl, ⟨nd, rfl⟩⟩
                          refine ⟨_, rfl, ?_⟩
                          refine hK.out _ _ ⟨(blk_cell BK172.out 0).trans rfl, (blk_cell BK172.out 1).trans rfl, (blk_cell BK172.out 2).trans rfl⟩ (fun hHeld => ?_)
                          clear hK K
                          refine norm_ (a' := ?_) ?_ ?_
                          rotate_left
                          · show Act.put _ (some 46) _ = _
                            simp only [Act.put, sA, sB, sC, i64_w, i32_w]
                            rfl
                          refine pure_ (i := 15) (N := some 47) (v := ?_) (a' := ?_) #[true, true, true, true, true, true, true, true, true, true, true, true, true, true, true, true, false] rfl rfl (any_of HT_.out (by kernel_rfl)) (fun _ _ _ h => h) (Or.inl ⟨by rfl, ?_⟩) ?_ ?_
                          rotate_left
                          · intro w'
                            go_simp
                            with_reducible rfl
                          rotate_left
                          · simp only [Act.put, sA, sB, sC, i64_w, i32_w]
                            rfl
                          refine pure_ (i := 16) (N := some 48) (v := ?_) (a' := ?_) #[true, true, true, true, true, true, true, true, true, true, true, true, true, true, true, true, true] rfl rfl (any_of HT_.out (by kernel_rfl)) (fun _ _ _ h => h) (Or.inl ⟨by rfl, ?_⟩) ?_ ?_
                          rotate_left
                          · intro w'
                            go_simp
                            with_reducible rfl
                          rotate_left
                          · simp only [Act.put, sA, sB, sC, i64_w, i32_w]
                            rfl
                          refine done_ (done_of HT_.out (by kernel_rfl)) ?_
                          have hnb85 := NB162_161.out
                          have hnc85 := NB161_162.out
                          have hnb86 := NB162_165.out
                          have hnc86 := NB165_162.out
                          have hcz87_0 : w83.cell? ⟨gb162, 0, none⟩ = some (.int .i64 x163000_1) := (blk_cell BK162.out 0).trans rfl
                          have hcz87_1 : w83.cell? ⟨gb162, 1, none⟩ = some (.int .i64 x163001_1) := (blk_cell BK162.out 1).trans rfl
                          have hfz87_0 := blk_frozen BK162.out 0
                          have hfz87_1 := blk_frozen BK162.out 1
                          try go_wp2
                          refine bodyPost_ret (results_tc rfl _ _ gb162 27 #[.int .i64 19, .int .i64 x27_1] (0, 0) _ rfl (by (with_reducible repeat first|apply bN|apply bD|apply bA);refine blk_put (cs := #[.int .i64 19, .int .i64 x163001_1]) ?_ 1 _ rfl;(with_reducible repeat first|apply bN|apply bD|apply bA);refine blk_put (cs := #[.int .i64 x163000_1, .int .i64 x163001_1]) ?_ 0 _ rfl;(with_reducible repeat first|apply bN|apply bD|apply bA);exact BK162.out) Try.underlying27 rfl (by kernel_rfl)) rfl ?_
                          exact ⟨_, by first|rfl|(simp [errW_none, errW_some] <;> rfl)|(simp [*, errW_none, errW_some] <;> rfl), by first|exact Kd.R_nil _ _ _ _ _|exact Kd.N_nil _ _ _ _ _|exact Kd.V_nil _ _ _ _ _|exact Kd.Q_nil _ _ _ _ _|exact Kd.S_nil _ _ _ _ _, by repeat (first|(with_reducible first|exact HB.out|apply eA|apply eN|apply eD|refine below_set ?_ GE161.out|refine below_set ?_ GE162.out|refine below_set ?_ GE165.out|refine below_set ?_ GE172.out)|exact HB.out)⟩
                      · rw [if_neg c50] at H
                        exact absurd H (by simp)
                    · rw [if_neg c49] at H
                      exact absurd H (by simp)
                  · rw [if_neg c48] at H
                    exact absurd H (by simp)
              · rw [if_neg c33] at H
                exact absurd H (by simp)
            · rw [if_neg c32] at H
              exact absurd H (by simp)
          · rw [if_neg c31] at H
            have c31b0 : decide (x27_1 < (l0_0.length : Int)) = false := decide_eq_false c31
            clear c31
            by_cases c88 : 0 ≤ x9_1
            · rw [if_pos c88] at H
              have c88b0 := eq_true c88
              have c88b1 : decide (0 ≤ x9_1) = true := decide_eq_true c88
              clear c88
              by_cases c89 : x9_1 ≤ (l1.length : Int)
              · rw [if_pos c89] at H
                have c89b0 := eq_true c89
                have c89b1 : decide (x9_1 ≤ (l1.length : Int)) = true := decide_eq_true c89
                clear c89
                by_cases c90 : x8_1.length + (l1.drop (x9_1 : Int).toNat).length < 8796093022208
                · rw [if_pos c90] at H
                  have LMc90 := Aside0.mk c90
                  clear c90
                  obtain ⟨y168, hy168⟩ : ∃ y_ : List ByteArray, y_ = (x8_1 ++ (l1.drop (x9_1 : Int).toNat)) := ⟨_, rfl⟩
                  replace H : (if (y168.length : Int) > 120 then (some (([] : List ByteArray), 10, (-1))) else (some (y168, 0, 0))) = some (r1, r2, r3) := by first|(rw [hy168];with_reducible exact H)|(have H2_ := (Option.bind_some _ _).symm.trans H;rw [hy168];with_reducible exact H2_)|(have H2_ := (Option.bind_some _ _).symm.trans H;with_reducible exact H2_)|with_reducible exact H|(rw [hy168];exact H)|exact H
                  have Ny168 := Aside0.mk hy168
                  clear hy168
                  by_cases c91 : (y168.length : Int) > 120
                  · rw [if_pos c91] at H
                    have c91b0 : decide (120 < (y168.length : Int)) = true := decide_eq_true c91
                    have c91b1 : decide (120 < y168.length) = true := decide_eq_true (by omega)
                    clear c91
                    simp only [Option.some.injEq, Prod.mk.injEq] at H
                    obtain ⟨rfl, rfl, rfl⟩ := H
                    obtain ⟨i092, hi092, _, hsz92, _⟩ := info_parts info9
                    obtain ⟨A92, hcut92, hA92, hC92⟩ := print_drop_of (P := Try.prog) Value.string (⟨#[]⟩ : ByteArray) 25 9 .i64 Try.underlying25 hi092 hsz92 A1 c1 l1 x9_1 (of_decide_eq_true (by first|(with_reducible assumption)|assumption)) (of_decide_eq_true (by first|(with_reducible assumption)|assumption)) HC1.out
                    have HR167 := Aside0.mk (Kd.C_of_reads (h1 := fun _ => rfl) (hA92 _ (Kd.reads_of_C HR1.out)))
                    have HC167 := Aside0.mk hC92
                    clear hA92 hC92 hi092 hsz92
                    go_wp2_with (first|((with_reducible refine gate_builtin (b := .append) (xs := #[.tmp 64, .tmp 67]) rfl ?_);at_builtin;refine Kd.R_append_rows Kd.string (w0 := w) w.heap.size rfl (.tmp 64) (.tmp 67) 25 9 (.string ⟨#[]⟩) 16 rfl Try.underlying25 info9 rfl (by decide) (by omega) u8 x8_1 (l1.drop (x9_1 : Int).toNat) _ _ _ (fun _ => True) (fun _ => False) rfl rfl ?aO ?aR (fun _ _ h => h) (fun _ h => h.elim) ?aF ?aB ?aS ?aL ?_;(case aR => first|(rw [← show (l1.drop (x9_1 : Int).toNat).length = (l1.length - x9_1.toNat) from List.length_drop];repeat (first|exact (Kd.C_below HR167.out HB.out)|(with_reducible refine Kd.C_alloc ?_ _)|(with_reducible refine Kd.C_drewN ?_ _)|(with_reducible refine Kd.C_drew ?_)))|(repeat (first|exact (Kd.C_below HR167.out HB.out)|(with_reducible refine Kd.C_alloc ?_ _)|(with_reducible refine Kd.C_drewN ?_ _)|(with_reducible refine Kd.C_drew ?_))));(case aB => exact (by repeat (first|(with_reducible first|exact HB.out|apply eA|apply eN|apply eD|refine below_set ?_ GE161.out|refine below_set ?_ GE162.out|refine below_set ?_ GE165.out)|exact HB.out)));(case aF => exact (fun _ _ => trivial));(case aO => exact (by (with_reducible repeat first|apply rA|apply rN|apply rD);exact HO_8.out));(case aS => exact (below_size (by repeat (first|(with_reducible first|exact HB.out|apply eA|apply eN|apply eD|refine below_set ?_ GE161.out|refine below_set ?_ GE162.out|refine below_set ?_ GE165.out)|exact HB.out))));(case aL => have := LMc90.out;have hlx_ := (show (l1.drop (x9_1 : Int).toNat).length = (l1.length - x9_1.toNat) from List.length_drop);omega);intro v169 w93 ho hb hg hat;rw [← Ny168.out] at ho;have n0_ := Aside0.mk (blk_grown (g := gb161) (o := .cells #[.slice A0_0 l0_0.length c0_0] 24 (0, 0)) (by (with_reducible repeat first|apply bN|apply bD|apply bA);exact BK161.out) hg (Kd.R_ne HO_8.out BK161.out (by decide)));have n1_ := Aside0.mk (blk_grown (g := gb162) (o := .cells #[.int .i64 x163000_1, .int .i64 x163001_1] 27 (0, 0)) (by (with_reducible repeat first|apply bN|apply bD|apply bA);exact BK162.out) hg (Kd.R_ne HO_8.out BK162.out (by decide)));have n2_ := Aside0.mk (blk_grown (g := gb165) (o := .cells #[.int .i64 t163, .int .i64 t164] 27 (0, 0)) (by (with_reducible repeat first|apply bN|apply bD|apply bA);exact BK165.out) hg (Kd.R_ne HO_8.out BK165.out (by decide)));have n3_ := Aside0.mk (hb);have n4_ := Aside0.mk (ho);clear BK161;clear BK162;clear BK165;clear HB;clear HO_8;have BK161 := n0_;have BK162 := n1_;have BK165 := n2_;have HB := n3_;have HO170 := n4_;clear n0_ n1_ n2_ n3_ n4_;clear ho hb hg hat;obtain ⟨Ao94, co94, eo94⟩ := Kd.R_slice HO170.out;subst eo94;have hnb95 := NB162_161.out;have hnc95 := NB161_162.out;have hnb96 := NB162_165.out;have hnc96 := NB165_162.out;have hcz97_0 : w93.cell? ⟨gb162, 0, none⟩ = some (.int .i64 x163000_1) := (blk_cell BK162.out 0).trans rfl;have hcz97_1 : w93.cell? ⟨gb162, 1, none⟩ = some (.int .i64 x163001_1) := (blk_cell BK162.out 1).trans rfl;have hfz97_0 := blk_frozen BK162.out 0;have hfz97_1 := blk_frozen BK162.out 1))
                    refine bodyPost_ret (results_tc rfl _ _ gb162 27 #[.int .i64 10, .int .i64 (-1)] (0, 0) _ rfl (by (with_reducible repeat first|apply bN|apply bD|apply bA);refine blk_put (cs := #[.int .i64 10, .int .i64 x163001_1]) ?_ 1 _ rfl;(with_reducible repeat first|apply bN|apply bD|apply bA);refine blk_put (cs := #[.int .i64 x163000_1, .int .i64 x163001_1]) ?_ 0 _ rfl;(with_reducible repeat first|apply bN|apply bD|apply bA);exact BK162.out) Try.underlying27 rfl (by kernel_rfl)) rfl ?_
                    exact ⟨_, by first|rfl|(simp [errW_none, errW_some] <;> rfl)|(simp [*, errW_none, errW_some] <;> rfl), by first|exact Kd.R_nil _ _ _ _ _|exact Kd.N_nil _ _ _ _ _|exact Kd.V_nil _ _ _ _ _|exact Kd.Q_nil _ _ _ _ _|exact Kd.S_nil _ _ _ _ _, by repeat (first|(with_reducible first|exact HB.out|apply eA|apply eN|apply eD|refine below_set ?_ GE161.out|refine below_set ?_ GE162.out|refine below_set ?_ GE165.out)|exact HB.out)⟩
                  · rw [if_neg c91] at H
                    have c91b0 : decide (120 < (y168.length : Int)) = false := decide_eq_false c91
                    have c91b1 : decide (120 < y168.length) = false := decide_eq_false (by omega)
                    clear c91
                    simp only [Option.some.injEq, Prod.mk.injEq] at H
                    obtain ⟨rfl, rfl, rfl⟩ := H
                    obtain ⟨i098, hi098, _, hsz98, _⟩ := info_parts info9
                    obtain ⟨A98, hcut98, hA98, hC98⟩ := print_drop_of (P := Try.prog) Value.string (⟨#[]⟩ : ByteArray) 25 9 .i64 Try.underlying25 hi098 hsz98 A1 c1 l1 x9_1 (of_decide_eq_true (by first|(with_reducible assumption)|assumption)) (of_decide_eq_true (by first|(with_reducible assumption)|assumption)) HC1.out
                    have HR167 := Aside0.mk (Kd.C_of_reads (h1 := fun _ => rfl) (hA98 _ (Kd.reads_of_C HR1.out)))
                    have HC167 := Aside0.mk hC98
                    clear hA98 hC98 hi098 hsz98
                    go_wp2_with (first|((with_reducible refine gate_builtin (b := .append) (xs := #[.tmp 64, .tmp 67]) rfl ?_);at_builtin;refine Kd.R_append_rows Kd.string (w0 := w) w.heap.size rfl (.tmp 64) (.tmp 67) 25 9 (.string ⟨#[]⟩) 16 rfl Try.underlying25 info9 rfl (by decide) (by omega) u8 x8_1 (l1.drop (x9_1 : Int).toNat) _ _ _ (fun _ => True) (fun _ => False) rfl rfl ?aO ?aR (fun _ _ h => h) (fun _ h => h.elim) ?aF ?aB ?aS ?aL ?_;(case aR => first|(rw [← show (l1.drop (x9_1 : Int).toNat).length = (l1.length - x9_1.toNat) from List.length_drop];repeat (first|exact (Kd.C_below HR167.out HB.out)|(with_reducible refine Kd.C_alloc ?_ _)|(with_reducible refine Kd.C_drewN ?_ _)|(with_reducible refine Kd.C_drew ?_)))|(repeat (first|exact (Kd.C_below HR167.out HB.out)|(with_reducible refine Kd.C_alloc ?_ _)|(with_reducible refine Kd.C_drewN ?_ _)|(with_reducible refine Kd.C_drew ?_))));(case aB => exact (by repeat (first|(with_reducible first|exact HB.out|apply eA|apply eN|apply eD|refine below_set ?_ GE161.out|refine below_set ?_ GE162.out|refine below_set ?_ GE165.out)|exact HB.out)));(case aF => exact (fun _ _ => trivial));(case aO => exact (by (with_reducible repeat first|apply rA|apply rN|apply rD);exact HO_8.out));(case aS => exact (below_size (by repeat (first|(with_reducible first|exact HB.out|apply eA|apply eN|apply eD|refine below_set ?_ GE161.out|refine below_set ?_ GE162.out|refine below_set ?_ GE165.out)|exact HB.out))));(case aL => have := LMc90.out;have hlx_ := (show (l1.drop (x9_1 : Int).toNat).length = (l1.length - x9_1.toNat) from List.length_drop);omega);intro v169 w99 ho hb hg hat;rw [← Ny168.out] at ho;have n0_ := Aside0.mk (blk_grown (g := gb161) (o := .cells #[.slice A0_0 l0_0.length c0_0] 24 (0, 0)) (by (with_reducible repeat first|apply bN|apply bD|apply bA);exact BK161.out) hg (Kd.R_ne HO_8.out BK161.out (by decide)));have n1_ := Aside0.mk (blk_grown (g := gb162) (o := .cells #[.int .i64 x163000_1, .int .i64 x163001_1] 27 (0, 0)) (by (with_reducible repeat first|apply bN|apply bD|apply bA);exact BK162.out) hg (Kd.R_ne HO_8.out BK162.out (by decide)));have n2_ := Aside0.mk (blk_grown (g := gb165) (o := .cells #[.int .i64 t163, .int .i64 t164] 27 (0, 0)) (by (with_reducible repeat first|apply bN|apply bD|apply bA);exact BK165.out) hg (Kd.R_ne HO_8.out BK165.out (by decide)));have n3_ := Aside0.mk (hb);have n4_ := Aside0.mk (ho);clear BK161;clear BK162;clear BK165;clear HB;clear HO_8;have BK161 := n0_;have BK162 := n1_;have BK165 := n2_;have HB := n3_;have HO170 := n4_;clear n0_ n1_ n2_ n3_ n4_;clear ho hb hg hat;obtain ⟨Ao100, co100, eo100⟩ := Kd.R_slice HO170.out;subst eo100;have hnb101 := NB162_161.out;have hnc101 := NB161_162.out;have hnb102 := NB162_165.out;have hnc102 := NB165_162.out;have hcz103_0 : w99.cell? ⟨gb162, 0, none⟩ = some (.int .i64 x163000_1) := (blk_cell BK162.out 0).trans rfl;have hcz103_1 : w99.cell? ⟨gb162, 1, none⟩ = some (.int .i64 x163001_1) := (blk_cell BK162.out 1).trans rfl;have hfz103_0 := blk_frozen BK162.out 0;have hfz103_1 := blk_frozen BK162.out 1))
                    refine bodyPost_ret (results_tc rfl _ _ gb162 27 #[.int .i64 0, .int .i64 0] (0, 0) _ rfl (by (with_reducible repeat first|apply bN|apply bD|apply bA);refine blk_put (cs := #[.int .i64 0, .int .i64 x163001_1]) ?_ 1 _ rfl;(with_reducible repeat first|apply bN|apply bD|apply bA);refine blk_put (cs := #[.int .i64 x163000_1, .int .i64 x163001_1]) ?_ 0 _ rfl;(with_reducible repeat first|apply bN|apply bD|apply bA);exact BK162.out) Try.underlying27 rfl (by kernel_rfl)) rfl ?_
                    exact ⟨_, by first|rfl|(simp [errW_none, errW_some] <;> rfl)|(simp [*, errW_none, errW_some] <;> rfl), by (with_reducible repeat first|apply rA|apply rN|apply rD);exact Kd.R_mono (Kd.R_far (p := ⟨gb162, 1, none⟩) (Kd.R_far (p := ⟨gb162, 0, none⟩) (Kd.R_types HO170.out BK162.out (by decide)) (fun _ hk => hk.2) (.int .i64 0)) (fun _ hk => hk.2) (.int .i64 0)) (fun _ hk => trivial), by repeat (first|(with_reducible first|exact HB.out|apply eA|apply eN|apply eD|refine below_set ?_ GE161.out|refine below_set ?_ GE162.out|refine below_set ?_ GE165.out)|exact HB.out)⟩
                · rw [if_neg c90] at H
                  exact absurd H (by simp)
              · rw [if_neg c89] at H
                exact absurd H (by simp)
            · rw [if_neg c88] at H
              exact absurd H (by simp)
    · rw [if_neg c19] at H
      have c19b0 : (t166 == 0) = false := beq_eq_false_iff_ne.mpr c19
      have c19b1 : (t166 != 0) = true := bne_iff_ne.mpr c19
      simp only [Option.some.injEq, Prod.mk.injEq] at H
      obtain ⟨rfl, rfl, rfl⟩ := H
      go_enter Try.func15, Try.ntmps15
      go_wp2_with (first|((with_reducible refine gate_dst (N := 2) rfl ?_);refine box_event ?hg (N := 2) ?hd (cs := #[.slice A0_0 l0_0.length c0_0]) (t := 24) ?hr ?_;(case hd => rfl);(case hg => rfl);(case hr => first|(go_simp;done)|(go_simp;rfl));intro gb161 hg w104 hbox hb;have n0_ := Aside0.mk (below_step (by repeat (first|(with_reducible first|exact HB.out|apply eA|apply eN|apply eD)|exact HB.out)) hb);have n1_ := Aside0.mk (hbox);have n2_ := Aside0.mk ((by rw [hg];exact (below_size (by repeat (first|(with_reducible first|exact HB.out|apply eA|apply eN|apply eD)|exact HB.out))) : w.heap.size ≤ gb161));have n3_ := Aside0.mk ((by rw [hg];exact (below_size (by repeat (first|(with_reducible first|exact HB.out|apply eA|apply eN|apply eD)|exact HB.out))) : w.heap.size ≤ gb161));clear HB;have HB := n0_;have BK161 := n1_;have GW161 := n2_;have GE161 := n3_;clear n0_ n1_ n2_ n3_;clear hb hbox hg)|((with_reducible refine gate_dst (N := 5) rfl ?_);refine box_event ?hg (N := 5) ?hd (cs := #[.int .i64 0, .int .i64 0]) (t := 27) ?hr ?_;(case hd => rfl);(case hg => rfl);(case hr => first|(go_simp;done)|(go_simp;rfl));intro gb162 hg w105 hbox hb;have n0_ := Aside0.mk (blk_below (g := gb161) (o := .cells #[.slice A0_0 l0_0.length c0_0] 24 (0, 0)) (by (with_reducible repeat first|apply bN|apply bD|apply bA);exact BK161.out) hb);have n1_ := Aside0.mk (below_step (by repeat (first|(with_reducible first|exact HB.out|apply eA|apply eN|apply eD|refine below_set ?_ GE161.out)|exact HB.out)) hb);have n2_ := Aside0.mk (hbox);have n3_ := Aside0.mk ((by rw [hg];exact (below_size (by repeat (first|(with_reducible first|exact HB.out|apply eA|apply eN|apply eD|refine below_set ?_ GE161.out)|exact HB.out))) : w.heap.size ≤ gb162));have n4_ := Aside0.mk ((by rw [hg];exact (below_size (by repeat (first|(with_reducible first|exact HB.out|apply eA|apply eN|apply eD|refine below_set ?_ GE161.out)|exact HB.out))) : w.heap.size ≤ gb162));have n5_ := Aside0.mk ((by rw [hg];exact Nat.ne_of_lt (blk_lt (g := gb161) (o := .cells #[.slice A0_0 l0_0.length c0_0] 24 (0, 0)) (by (with_reducible repeat first|apply bN|apply bD|apply bA);exact BK161.out)) : gb161 ≠ gb162));have n6_ := Aside0.mk ((by rw [hg];exact Nat.ne_of_gt (blk_lt (g := gb161) (o := .cells #[.slice A0_0 l0_0.length c0_0] 24 (0, 0)) (by (with_reducible repeat first|apply bN|apply bD|apply bA);exact BK161.out)) : gb162 ≠ gb161));clear BK161;clear HB;have BK161 := n0_;have HB := n1_;have BK162 := n2_;have GW162 := n3_;have GE162 := n4_;have NB161_162 := n5_;have NB162_161 := n6_;clear n0_ n1_ n2_ n3_ n4_ n5_ n6_;clear hb hbox hg;have hnb106 := NB161_162.out;have hnc106 := NB162_161.out;have hcz107_0 : w105.cell? ⟨gb161, 0, none⟩ = some (.slice A0_0 l0_0.length c0_0) := (blk_cell BK161.out 0).trans rfl;have hfz107_0 := blk_frozen BK161.out 0)|((with_reducible refine gate_callee (f := 19) rfl ?_);refine goesL_ (some 13) rfl rfl Try.func19 (by kernel_rfl) rfl #[.agg #[.slice A0_0 l0_0.length c0_0]] rfl (by (try simp only [List.map_toArray, List.map_cons, List.map_nil]);first|done|rfl|(simp only [List.length_drop, List.length_take];rfl)) ?_;(with_reducible refine (textpatch_Validate.calls _ _ l0_0 t163 t164 _ ?side1 ?side2 A3.out).mono ?_);(case side1 => repeat (first|exact (Kd.C_below HR0_0.out HB.out)|(with_reducible refine Kd.C_alloc ?_ _)|(with_reducible refine Kd.C_drewN ?_ _)|(with_reducible refine Kd.C_drew ?_)));(case side2 => exact HC0_0.out);rintro e w108 ⟨rfl, hb⟩;refine ⟨_, rfl, ?_⟩;have n0_ := Aside0.mk (blk_below (g := gb161) (o := .cells #[.slice A0_0 l0_0.length c0_0] 24 (0, 0)) (by (with_reducible repeat first|apply bN|apply bD|apply bA);exact BK161.out) hb);have n1_ := Aside0.mk (blk_below (g := gb162) (o := .cells #[.int .i64 0, .int .i64 0] 27 (0, 0)) (by (with_reducible repeat first|apply bN|apply bD|apply bA);exact BK162.out) hb);have n2_ := Aside0.mk (below_step (by repeat (first|(with_reducible first|exact HB.out|apply eA|apply eN|apply eD|refine below_set ?_ GE161.out|refine below_set ?_ GE162.out)|exact HB.out)) hb);clear BK161;clear BK162;clear HB;have BK161 := n0_;have BK162 := n1_;have HB := n2_;clear n0_ n1_ n2_;(try clear hb);(try clear hb2);(try clear hk);(try clear hi))|((with_reducible refine gate_dst (N := 6) rfl ?_);refine box_event ?hg (N := 6) ?hd (cs := #[.int .i64 0, .int .i64 0]) (t := 27) ?hr ?_;(case hd => rfl);(case hg => rfl);(case hr => first|(go_simp;done)|(go_simp;rfl));intro gb165 hg w109 hbox hb;have n0_ := Aside0.mk (blk_below (g := gb161) (o := .cells #[.slice A0_0 l0_0.length c0_0] 24 (0, 0)) (by (with_reducible repeat first|apply bN|apply bD|apply bA);exact BK161.out) hb);have n1_ := Aside0.mk (blk_below (g := gb162) (o := .cells #[.int .i64 0, .int .i64 0] 27 (0, 0)) (by (with_reducible repeat first|apply bN|apply bD|apply bA);exact BK162.out) hb);have n2_ := Aside0.mk (below_step (by repeat (first|(with_reducible first|exact HB.out|apply eA|apply eN|apply eD|refine below_set ?_ GE161.out|refine below_set ?_ GE162.out)|exact HB.out)) hb);have n3_ := Aside0.mk (hbox);have n4_ := Aside0.mk ((by rw [hg];exact (below_size (by repeat (first|(with_reducible first|exact HB.out|apply eA|apply eN|apply eD|refine below_set ?_ GE161.out|refine below_set ?_ GE162.out)|exact HB.out))) : w.heap.size ≤ gb165));have n5_ := Aside0.mk ((by rw [hg];exact (below_size (by repeat (first|(with_reducible first|exact HB.out|apply eA|apply eN|apply eD|refine below_set ?_ GE161.out|refine below_set ?_ GE162.out)|exact HB.out))) : w.heap.size ≤ gb165));have n6_ := Aside0.mk ((by rw [hg];exact Nat.ne_of_lt (blk_lt (g := gb161) (o := .cells #[.slice A0_0 l0_0.length c0_0] 24 (0, 0)) (by (with_reducible repeat first|apply bN|apply bD|apply bA);exact BK161.out)) : gb161 ≠ gb165));have n7_ := Aside0.mk ((by rw [hg];exact Nat.ne_of_gt (blk_lt (g := gb161) (o := .cells #[.slice A0_0 l0_0.length c0_0] 24 (0, 0)) (by (with_reducible repeat first|apply bN|apply bD|apply bA);exact BK161.out)) : gb165 ≠ gb161));have n8_ := Aside0.mk ((by rw [hg];exact Nat.ne_of_lt (blk_lt (g := gb162) (o := .cells #[.int .i64 0, .int .i64 0] 27 (0, 0)) (by (with_reducible repeat first|apply bN|apply bD|apply bA);exact BK162.out)) : gb162 ≠ gb165));have n9_ := Aside0.mk ((by rw [hg];exact Nat.ne_of_gt (blk_lt (g := gb162) (o := .cells #[.int .i64 0, .int .i64 0] 27 (0, 0)) (by (with_reducible repeat first|apply bN|apply bD|apply bA);exact BK162.out)) : gb165 ≠ gb162));clear BK161;clear BK162;clear HB;have BK161 := n0_;have BK162 := n1_;have HB := n2_;have BK165 := n3_;have GW165 := n4_;have GE165 := n5_;have NB161_165 := n6_;have NB165_161 := n7_;have NB162_165 := n8_;have NB165_162 := n9_;clear n0_ n1_ n2_ n3_ n4_ n5_ n6_ n7_ n8_ n9_;clear hb hbox hg;have hnb110 := NB165_161.out;have hnc110 := NB161_165.out;have hnb111 := NB165_162.out;have hnc111 := NB162_165.out;have hcz112_0 : w109.cell? ⟨gb165, 0, none⟩ = some (.int .i64 0) := (blk_cell BK165.out 0).trans rfl;have hcz112_1 : w109.cell? ⟨gb165, 1, none⟩ = some (.int .i64 0) := (blk_cell BK165.out 1).trans rfl;have hfz112_0 := blk_frozen BK165.out 0;have hfz112_1 := blk_frozen BK165.out 1)|((with_reducible refine gate_callee (f := 32) rfl ?_);refine goesL_ (some 19) rfl rfl Try.func32 (by kernel_rfl) rfl #[.slice A1 l1.length c1] rfl (by (try simp only [List.map_toArray, List.map_cons, List.map_nil]);first|done|rfl|(simp only [List.length_drop, List.length_take];rfl)) ?_;(with_reducible refine (lines_Code.calls _ _ l1 t166 _ ?side1 ?side2 A18.out).mono ?_);(case side1 => exact Kd.C_below HR1.out (by repeat (first|(with_reducible first|exact HB.out|apply eA|apply eN|apply eD|refine below_set ?_ GE161.out|refine below_set ?_ GE162.out|refine below_set ?_ GE165.out)|exact HB.out)));(case side2 => exact HC1.out);rintro e w113 ⟨rfl, hb⟩;refine ⟨_, rfl, ?_⟩;have n0_ := Aside0.mk (blk_below (g := gb161) (o := .cells #[.slice A0_0 l0_0.length c0_0] 24 (0, 0)) (by (with_reducible repeat first|apply bN|apply bD|apply bA);refine blk_far ?_ NB161_165.out _;(with_reducible repeat first|apply bN|apply bD|apply bA);refine blk_far ?_ NB161_165.out _;(with_reducible repeat first|apply bN|apply bD|apply bA);exact BK161.out) hb);have n1_ := Aside0.mk (blk_below (g := gb162) (o := .cells #[.int .i64 0, .int .i64 0] 27 (0, 0)) (by (with_reducible repeat first|apply bN|apply bD|apply bA);refine blk_far ?_ NB162_165.out _;(with_reducible repeat first|apply bN|apply bD|apply bA);refine blk_far ?_ NB162_165.out _;(with_reducible repeat first|apply bN|apply bD|apply bA);exact BK162.out) hb);have n2_ := Aside0.mk (blk_below (g := gb165) (o := .cells #[.int .i64 t163, .int .i64 t164] 27 (0, 0)) (by (with_reducible repeat first|apply bN|apply bD|apply bA);refine blk_put (cs := #[.int .i64 t163, .int .i64 0]) ?_ 1 _ rfl;(with_reducible repeat first|apply bN|apply bD|apply bA);refine blk_put (cs := #[.int .i64 0, .int .i64 0]) ?_ 0 _ rfl;(with_reducible repeat first|apply bN|apply bD|apply bA);exact BK165.out) hb);have n3_ := Aside0.mk (below_step (by repeat (first|(with_reducible first|exact HB.out|apply eA|apply eN|apply eD|refine below_set ?_ GE161.out|refine below_set ?_ GE162.out|refine below_set ?_ GE165.out)|exact HB.out)) hb);clear BK161;clear BK162;clear BK165;clear HB;have BK161 := n0_;have BK162 := n1_;have BK165 := n2_;have HB := n3_;clear n0_ n1_ n2_ n3_;(try clear hb);(try clear hb2);(try clear hk);(try clear hi);have hcz114_0 : w113.cell? ⟨gb162, 0, none⟩ = some (.int .i64 0) := (blk_cell BK162.out 0).trans rfl;have hcz114_1 : w113.cell? ⟨gb162, 1, none⟩ = some (.int .i64 0) := (blk_cell BK162.out 1).trans rfl;have hfz114_0 := blk_frozen BK162.out 0;have hfz114_1 := blk_frozen BK162.out 1))
      refine bodyPost_ret (results_tc rfl _ _ gb162 27 #[.int .i64 t166, .int .i64 (-2)] (0, 0) _ rfl (by (with_reducible repeat first|apply bN|apply bD|apply bA);refine blk_put (cs := #[.int .i64 t166, .int .i64 0]) ?_ 1 _ rfl;(with_reducible repeat first|apply bN|apply bD|apply bA);refine blk_put (cs := #[.int .i64 0, .int .i64 0]) ?_ 0 _ rfl;(with_reducible repeat first|apply bN|apply bD|apply bA);exact BK162.out) Try.underlying27 rfl (by kernel_rfl)) rfl ?_
      exact ⟨_, by first|rfl|(simp [errW_none, errW_some] <;> rfl)|(simp [*, errW_none, errW_some] <;> rfl), by first|exact Kd.R_nil _ _ _ _ _|exact Kd.N_nil _ _ _ _ _|exact Kd.V_nil _ _ _ _ _|exact Kd.Q_nil _ _ _ _ _|exact Kd.S_nil _ _ _ _ _, by repeat (first|(with_reducible first|exact HB.out|apply eA|apply eN|apply eD|refine below_set ?_ GE161.out|refine below_set ?_ GE162.out|refine below_set ?_ GE165.out)|exact HB.out)⟩

/-! ### textpatch_Apply: function 15 -/
theorem textpatch_Apply_0.loop (t : List ByteArray) (ht : t.length ≤ 120) (xs : List S47) (hl : xs.length ≤ 130) (d : Nat) : ∀ (k i : Nat) (at_ low : Int) (out : List ByteArray), i ≤ xs.length → xs.length - i = d → d < k →
    0 ≤ at_ → at_ ≤ low → at_ ≤ t.length → out.length ≤ 240 * i → okFrom ((xs.drop i).map (fun x_ : S47 => ((x_.f0, x_.f1, x_.f2) : Hk))) low → textpatch_Apply_0.l0 k t out at_ xs (xs.length : Int) (i : Int) = some (apGo t ((xs.drop i).map (fun x_ : S47 => ((x_.f0, x_.f1, x_.f2) : Hk))) at_ (i : Int) out) := by
  induction d with
  | zero =>
    intro k i at_ low out hi hd hk h0 h1 h2 h3 hok
    obtain ⟨k, rfl⟩ : ∃ m, k = m + 1 := ⟨k - 1, by omega⟩
    simp only [textpatch_Apply_0.l0]
    rw [if_neg (by omega), if_pos h0, if_pos h2, if_pos (by rw [List.length_drop]; omega), show xs.drop i = [] from List.drop_eq_nil_of_le (by omega)]
    simp only [Option.bind_some, List.map_nil, apGo]
    by_cases c : 120 < (out ++ t.drop at_.toNat).length
    · rw [if_pos (by omega), if_pos c]
    · rw [if_neg (by omega), if_neg c]
  | succ d ih =>
    intro k i at_ low out hi hd hk h0 h1 h2 h3 hok
    obtain ⟨k, rfl⟩ : ∃ m, k = m + 1 := ⟨k - 1, by omega⟩
    have hdr : xs.drop i = rd_T47 xs (i : Int) :: xs.drop (i + 1) := rdOf_drop z47 xs i (by omega)
    rw [hdr, List.map_cons] at hok ⊢
    simp only [textpatch_Apply_0.l0, textpatch_End.f, slices_Equal_string_string.f, Option.bind_some]
    generalize rd_T47 xs (i : Int) = h at *
    obtain ⟨⟨o1, o2, o3, o4, o5, o6, o7⟩, hok'⟩ := hok
    have l1 := (linesFault_ok.1 o4).1
    have l2 := (linesFault_ok.1 o5).1
    simp only at o1 o2 o3 l1 l2
    have he : hkEnd (h.f0, h.f1, h.f2) = h.f0 + (h.f1.length : Int) := rfl
    rw [if_pos (by omega), if_pos (by omega), if_pos (by omega), w64 (n := h.f0 + (h.f1.length : Int)) (by omega) (by omega), apGo, he]
    by_cases c1 : h.f0 + (h.f1.length : Int) ≤ t.length
    · rw [if_neg (by omega), if_pos (by omega), if_pos (by omega), if_pos c1]
      by_cases c2 : cutOut t h.f0 (h.f0 + (h.f1.length : Int)) = h.f1
      · have c2' : List.drop h.f0.toNat (List.take (h.f0 + (h.f1.length : Int)).toNat t) = h.f1 := c2
        rw [if_pos (by rw [c2']; simp), if_pos h0, if_pos (by omega), if_pos (by omega), if_pos (by rw [List.length_drop, List.length_take]; omega), if_pos (by rw [List.length_append, List.length_drop, List.length_take]; omega), if_pos ⟨c1, c2⟩, w64 (n := (i : Int) + 1) (by omega) (by omega)]
        have := ih k (i + 1) (h.f0 + (h.f1.length : Int)) (h.f0 + (h.f1.length : Int) + 1) (out ++ cutOut t at_ h.f0 ++ h.f2) (by omega) (by omega) (by omega) (by omega) (by omega) c1
          (by unfold cutOut; rw [List.length_append, List.length_append, List.length_drop, List.length_take]; omega) hok'
        rw [show ((i + 1 : Nat) : Int) = (i : Int) + 1 by omega] at this
        exact this
      · have c2' : ¬ List.drop h.f0.toNat (List.take (h.f0 + (h.f1.length : Int)).toNat t) = h.f1 := c2
        rw [if_neg (by simpa using c2'), if_neg (fun hh => c2 hh.2)]
    · rw [if_pos (by omega), if_neg (fun hh => c1 hh.1)]
def textpatch_Apply.f (l0_0 : List (S47)) (l1 : List ByteArray) : Option (List ByteArray × Int × Int) :=  some (applySpec (l0_0.map (fun x_ : S47 => ((x_.f0, x_.f1, x_.f2) : Hk))) l1)
theorem textpatch_Apply.calls (A0_0 : Option Addr) (c0_0 : Nat) (l0_0 : List (S47)) (A1 : Option Addr) (c1 : Nat) (l1 : List ByteArray) (r1 : List ByteArray) (r2 : Int) (r3 : Int) (w : World) (hr0_0 : Kd.C k47 w A0_0 l0_0.length l0_0) (hc0_0 : l0_0.length ≤ c0_0) (hr1 : Kd.C Kd.string w A1 l1.length l1) (hc1 : l1.length ≤ c1) (h : textpatch_Apply.f l0_0 l1 = some (r1, r2, r3)) :
    Calls Try.prog 15 #[.agg #[.slice A0_0 l0_0.length c0_0], .slice A1 l1.length c1] w fun e w' => ∃ v0_ : Value, e = .returned (.tuple #[v0_, .agg #[.int .i64 r2, .int .i64 r3]]) ∧ Kd.R Kd.string 9 w' w.heap.size (fun _ => True) v0_ r1 ∧ Below w.heap.size w w' := by
  have h' : textpatch_Apply_0.f 131 l0_0 l1 = some (r1, r2, r3) := by
    rw [← h]
    unfold textpatch_Apply_0.f textpatch_Apply.f applySpec
    simp only [textpatch_Validate.f, lines_Code.f, Option.bind_some, fault_ne (patchFault_or (l0_0.map (fun x_ : S47 => ((x_.f0, x_.f1, x_.f2) : Hk)))), decide_eq_true_iff]
    by_cases z : patchFault (l0_0.map (fun x_ : S47 => ((x_.f0, x_.f1, x_.f2) : Hk))) = (0, 0)
    · rw [if_neg (by simpa using z), if_pos z]
      by_cases c : (linesFault l1).1 = 0
      · rw [if_pos c, if_pos c]
        obtain ⟨z1, z2⟩ := patchFault_ok.1 z
        rw [List.length_map] at z1
        exact textpatch_Apply_0.loop l1 (linesFault_ok.1 (linesFault_zero c)).1 l0_0 z1 l0_0.length 131 0 0 0 [] (by omega) (by omega) (by omega) (by omega) (by omega) (by omega) (by simp) z2
      · rw [if_neg c, if_neg c]
    · rw [if_pos (by simpa using z), if_neg z]
  exact (textpatch_Apply_0.calls (131) A0_0 c0_0 l0_0 A1 c1 l1 r1 r2 r3 w hr0_0 hc0_0 hr1 hc1 (h'))


end Go.Proofs.Ytdnnkhogpobjbaa.PI
