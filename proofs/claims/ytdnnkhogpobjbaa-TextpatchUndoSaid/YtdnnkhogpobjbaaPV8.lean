/- Printed by a program of this session out of the translation: Lean functions for Go functions, and proofs that the Go functions answer the same. -/
import Derived.Test.YtdnnkhogpobjbaaPV0
import Derived.Test.YtdnnkhogpobjbaaPV4
import Derived.Test.YtdnnkhogpobjbaaPV5
import Derived.Test.YtdnnkhogpobjbaaPV7
namespace Go.Proofs.Ytdnnkhogpobjbaa.PV
open Go.RowKit Go.Proofs.Ytdnnkhogpobjbaa.Pre Go.Proofs.YtdnnkhogpobjbaaW.PrintWords Go.Proofs.YtdnnkhogpobjbaaW.PrintLast Go.Proofs.YtdnnkhogpobjbaaW.PrintMore
attribute [local go_sem] max2_int min2_int max_two min_two max_three min_three max_four min_four   -- for this text's walks alone
set_option linter.unusedVariables false
set_option linter.unusedSimpArgs false

/-! ### changeforgelaw1_TextpatchUndo: function 4 -/
def changeforgelaw1_TextpatchUndo.j0 : Nat → List ByteArray → List ByteArray → Bool → List (S47) → Option (Bool)
  | 0, _, _, _, _ => none
  | k + 1, x1, x5, x29, x242000 => if x29 = true then ((changeforgelaw1_replaced.f k).bind fun t243 => (some t243)) else ((textpatch_Apply.f x242000 x5).bind fun bt244 => (if bt244.2.1 = 0 then ((changeforgeequal_Strings.f bt244.1 x1).bind fun t250 => (if t250 = true then ((changeforgelaw1_replaced.f k).bind fun t251 => (some t251)) else (some false))) else (some false)))
def changeforgelaw1_TextpatchUndo.f (k : Nat) (l0_0 : List (S47)) (l1 : List ByteArray) : Option (Bool) := (textpatch_Apply.f l0_0 l1).bind fun bt230 => ((textpatch_Invert.f k l0_0).bind fun bt236 => (if bt230.2.1 = 0 then (changeforgelaw1_TextpatchUndo.j0 k l1 bt230.1 (bt236.2.1 != 0) bt236.1) else (changeforgelaw1_TextpatchUndo.j0 k l1 bt230.1 true bt236.1)))
theorem changeforgelaw1_TextpatchUndo.mono_l : ∀ k, (∀ y0 y1 y2 y3, LeO (changeforgelaw1_TextpatchUndo.j0 k y0 y1 y2 y3) (changeforgelaw1_TextpatchUndo.j0 (k + 1) y0 y1 y2 y3))
  | 0 => fun _ _ _ _ r h => by simp [changeforgelaw1_TextpatchUndo.j0] at h
  | k + 1 => by
    have ih0 := changeforgelaw1_TextpatchUndo.mono_l k
    · intro y0 y1 y2 y3
      unfold changeforgelaw1_TextpatchUndo.j0
      repeat' first
      | (with_reducible exact ih0 _ _ _ _)
      | (with_reducible exact changeforgelaw1_replaced.mono _)
      | (with_reducible exact textpatch_Invert.mono _ _)
      | (with_reducible exact LeO.refl _)
      | (with_reducible exact LeO.none _)
      | (with_reducible refine LeO.ite ?_ ?_)
      | (with_reducible refine LeO.bind ?_ (fun _ => ?_))
      | exact ih0 _ _ _ _
      | exact changeforgelaw1_replaced.mono _
      | exact textpatch_Invert.mono _ _
      | exact LeO.none _
      | refine LeO.ite ?_ ?_
      | refine LeO.bind ?_ (fun _ => ?_)
theorem changeforgelaw1_TextpatchUndo.mono : ∀ a0 a1 k, LeO (changeforgelaw1_TextpatchUndo.f k a0 a1) (changeforgelaw1_TextpatchUndo.f (k + 1) a0 a1) := by
  intro a0 a1 k
  have ih0 := changeforgelaw1_TextpatchUndo.mono_l k
  unfold changeforgelaw1_TextpatchUndo.f
  repeat' first
      | (with_reducible exact ih0 _ _ _ _)
      | (with_reducible exact changeforgelaw1_replaced.mono _)
      | (with_reducible exact textpatch_Invert.mono _ _)
      | (with_reducible exact LeO.refl _)
      | (with_reducible exact LeO.none _)
      | (with_reducible refine LeO.ite ?_ ?_)
      | (with_reducible refine LeO.bind ?_ (fun _ => ?_))
      | exact ih0 _ _ _ _
      | exact changeforgelaw1_replaced.mono _
      | exact textpatch_Invert.mono _ _
      | exact LeO.none _
      | refine LeO.ite ?_ ?_
      | refine LeO.bind ?_ (fun _ => ?_)
set_option maxHeartbeats 8000000 in
set_option maxRecDepth 100000 in
theorem changeforgelaw1_TextpatchUndo.calls (k : Nat) (A0_0 : Option Addr) (c0_0 : Nat) (l0_0 : List (S47)) (A1 : Option Addr) (c1 : Nat) (l1 : List ByteArray) (r : Bool) (w : World) (hr0_0 : Kd.C k47 w A0_0 l0_0.length l0_0) (hc0_0 : l0_0.length ≤ c0_0) (hr1 : Kd.C Kd.string w A1 l1.length l1) (hc1 : l1.length ≤ c1) (h : changeforgelaw1_TextpatchUndo.f k l0_0 l1 = some r) (hrt : r = true) :
    Calls Try.prog 4 #[.agg #[.slice A0_0 l0_0.length c0_0], .slice A1 l1.length c1] w fun e w' => e = .returned (.bool r) ∧ Below w.heap.size w w' := by
  have hu24 := Try.underlying24
  have hu27 := Try.underlying27
  have HR0_0 := Aside0.mk hr0_0
  have HC0_0 := Aside0.mk hc0_0
  clear hr0_0 hc0_0
  have HR1 := Aside0.mk hr1
  have HC1 := Aside0.mk hc1
  clear hr1 hc1
  have HB := Aside0.mk (Below.refl w.heap.size w)
  have H : ((textpatch_Apply.f l0_0 l1).bind fun bt230 => ((textpatch_Invert.f k l0_0).bind fun bt236 => (if bt230.2.1 = 0 then (changeforgelaw1_TextpatchUndo.j0 k l1 bt230.1 (bt236.2.1 != 0) bt236.1) else (changeforgelaw1_TextpatchUndo.j0 k l1 bt230.1 true bt236.1)))) = some r := h
  clear h
  replace H := Option.bind_eq_some_iff.mp H
  obtain ⟨⟨t230, t233, t234⟩, A30, H⟩ := H
  replace H : ((textpatch_Invert.f k l0_0).bind fun bt236 => (if t233 = 0 then (changeforgelaw1_TextpatchUndo.j0 k l1 t230 (bt236.2.1 != 0) bt236.1) else (changeforgelaw1_TextpatchUndo.j0 k l1 t230 true bt236.1))) = some r := H
  have A3 := Aside0.mk A30
  clear A30
  replace H := Option.bind_eq_some_iff.mp H
  obtain ⟨⟨t236, t239, t240⟩, A40, H⟩ := H
  replace H : (if t233 = 0 then (changeforgelaw1_TextpatchUndo.j0 k l1 t230 (t239 != 0) t236) else (changeforgelaw1_TextpatchUndo.j0 k l1 t230 true t236)) = some r := H
  have A4 := Aside0.mk A40
  clear A40
  have HC5 := Aside0.mk H
  clear H
  go_enter Try.func4, Try.ntmps4
  go_upto_region 3 with (first|((with_reducible refine gate_dst (N := 2) rfl ?_);refine box_event ?hg (N := 2) ?hd (cs := #[.slice A0_0 l0_0.length c0_0]) (t := 24) ?hr ?_;(case hd => rfl);(case hg => rfl);(case hr => first|(go_simp;done)|(go_simp;rfl));intro gb229 hg w6 hbox hb;have n0_ := Aside0.mk (below_step (by repeat (first|(with_reducible first|exact HB.out|apply eA|apply eN|apply eD)|exact HB.out)) hb);have n1_ := Aside0.mk (hbox);have n2_ := Aside0.mk ((by rw [hg];exact (below_size (by repeat (first|(with_reducible first|exact HB.out|apply eA|apply eN|apply eD)|exact HB.out))) : w.heap.size ≤ gb229));have n3_ := Aside0.mk ((by rw [hg];exact (below_size (by repeat (first|(with_reducible first|exact HB.out|apply eA|apply eN|apply eD)|exact HB.out))) : w.heap.size ≤ gb229));clear HB;have HB := n0_;have BK229 := n1_;have GW229 := n2_;have GE229 := n3_;clear n0_ n1_ n2_ n3_;clear hb hbox hg;have hcz7_0 : w6.cell? ⟨gb229, 0, none⟩ = some (.slice A0_0 l0_0.length c0_0) := (blk_cell BK229.out 0).trans rfl;have hfz7_0 := blk_frozen BK229.out 0)|((with_reducible refine gate_callee (f := 15) rfl ?_);refine goesL_ (some 14) rfl rfl Try.func15 (by kernel_rfl) rfl #[.agg #[.slice A0_0 l0_0.length c0_0], .slice A1 l1.length c1] rfl (by (try simp only [List.map_toArray, List.map_cons, List.map_nil]);first|done|rfl|(simp only [List.length_drop, List.length_take];rfl)) ?_;(with_reducible refine (textpatch_Apply.calls _ _ l0_0 _ _ l1 t230 t233 t234 _ ?side1 ?side2 ?side3 ?side4 A3.out).mono ?_);(case side1 => repeat (first|exact (Kd.C_below HR0_0.out HB.out)|(with_reducible refine Kd.C_alloc ?_ _)|(with_reducible refine Kd.C_drewN ?_ _)|(with_reducible refine Kd.C_drew ?_)));(case side2 => exact HC0_0.out);(case side3 => repeat (first|exact (Kd.C_below HR1.out HB.out)|(with_reducible refine Kd.C_alloc ?_ _)|(with_reducible refine Kd.C_drewN ?_ _)|(with_reducible refine Kd.C_drew ?_)));(case side4 => exact HC1.out);rintro e w8 ⟨v231, rfl, ho0, hb⟩;refine ⟨_, rfl, ?_⟩;have n0_ := Aside0.mk (Kd.R_lower ho0 (below_size (by repeat (first|(with_reducible first|exact HB.out|apply eA|apply eN|apply eD|refine below_set ?_ GE229.out)|exact HB.out))));have n1_ := Aside0.mk (blk_below (g := gb229) (o := .cells #[.slice A0_0 l0_0.length c0_0] 24 (0, 0)) (by (with_reducible repeat first|apply bN|apply bD|apply bA);exact BK229.out) hb);have n2_ := Aside0.mk (below_step (by repeat (first|(with_reducible first|exact HB.out|apply eA|apply eN|apply eD|refine below_set ?_ GE229.out)|exact HB.out)) hb);clear BK229;clear HB;have HO232 := n0_;have BK229 := n1_;have HB := n2_;clear n0_ n1_ n2_;(try clear hb);(try clear hb2);(try clear hk);(try clear hi);(try clear ho0))|((with_reducible refine gate_dst (N := 6) rfl ?_);refine box_event ?hg (N := 6) ?hd (cs := #[.int .i64 0, .int .i64 0]) (t := 27) ?hr ?_;(case hd => rfl);(case hg => rfl);(case hr => first|(go_simp;done)|(go_simp;rfl));intro gb235 hg w9 hbox hb;have n0_ := Aside0.mk (Kd.R_below (by (with_reducible repeat first|apply rA|apply rN|apply rD);exact HO232.out) hb);have n1_ := Aside0.mk (blk_below (g := gb229) (o := .cells #[.slice A0_0 l0_0.length c0_0] 24 (0, 0)) (by (with_reducible repeat first|apply bN|apply bD|apply bA);exact BK229.out) hb);have n2_ := Aside0.mk (below_step (by repeat (first|(with_reducible first|exact HB.out|apply eA|apply eN|apply eD|refine below_set ?_ GE229.out)|exact HB.out)) hb);have n3_ := Aside0.mk (hbox);have n4_ := Aside0.mk ((by rw [hg];exact (below_size (by repeat (first|(with_reducible first|exact HB.out|apply eA|apply eN|apply eD|refine below_set ?_ GE229.out)|exact HB.out))) : w.heap.size ≤ gb235));have n5_ := Aside0.mk ((by rw [hg];exact (below_size (by repeat (first|(with_reducible first|exact HB.out|apply eA|apply eN|apply eD|refine below_set ?_ GE229.out)|exact HB.out))) : w.heap.size ≤ gb235));have n6_ := Aside0.mk ((by rw [hg];exact Nat.ne_of_lt (blk_lt (g := gb229) (o := .cells #[.slice A0_0 l0_0.length c0_0] 24 (0, 0)) (by (with_reducible repeat first|apply bN|apply bD|apply bA);exact BK229.out)) : gb229 ≠ gb235));have n7_ := Aside0.mk ((by rw [hg];exact Nat.ne_of_gt (blk_lt (g := gb229) (o := .cells #[.slice A0_0 l0_0.length c0_0] 24 (0, 0)) (by (with_reducible repeat first|apply bN|apply bD|apply bA);exact BK229.out)) : gb235 ≠ gb229));clear HO232;clear BK229;clear HB;have HO232 := n0_;have BK229 := n1_;have HB := n2_;have BK235 := n3_;have GW235 := n4_;have GE235 := n5_;have NB229_235 := n6_;have NB235_229 := n7_;clear n0_ n1_ n2_ n3_ n4_ n5_ n6_ n7_;clear hb hbox hg;have hnb10 := NB235_229.out;have hnc10 := NB229_235.out;have hcz11_0 : w9.cell? ⟨gb235, 0, none⟩ = some (.int .i64 0) := (blk_cell BK235.out 0).trans rfl;have hcz11_1 : w9.cell? ⟨gb235, 1, none⟩ = some (.int .i64 0) := (blk_cell BK235.out 1).trans rfl;have hfz11_0 := blk_frozen BK235.out 0;have hfz11_1 := blk_frozen BK235.out 1;have hcz12_0 : w9.cell? ⟨gb229, 0, none⟩ = some (.slice A0_0 l0_0.length c0_0) := (blk_cell BK229.out 0).trans rfl;have hfz12_0 := blk_frozen BK229.out 0)|((with_reducible refine gate_callee (f := 17) rfl ?_);refine goesL_ (some 19) rfl rfl Try.func17 (by kernel_rfl) rfl #[.agg #[.slice A0_0 l0_0.length c0_0]] rfl (by (try simp only [List.map_toArray, List.map_cons, List.map_nil]);first|done|rfl|(simp only [List.length_drop, List.length_take];rfl)) ?_;(with_reducible refine (textpatch_Invert.calls k _ _ l0_0 t236 t239 t240 _ ?side1 ?side2 A4.out).mono ?_);(case side1 => exact Kd.C_below HR0_0.out (by repeat (first|(with_reducible first|exact HB.out|apply eA|apply eN|apply eD|refine below_set ?_ GE229.out|refine below_set ?_ GE235.out)|exact HB.out)));(case side2 => exact HC0_0.out);rintro e w13 ⟨v237, rfl, ho0, hb⟩;refine ⟨_, rfl, ?_⟩;have n0_ := Aside0.mk (Kd.R_below (by (with_reducible repeat first|apply rA|apply rN|apply rD);exact (Kd.R_mono (Kd.R_far (p := ⟨gb235, 1, none⟩) (Kd.R_far (p := ⟨gb235, 0, none⟩) (Kd.R_types HO232.out BK235.out (by decide)) (fun _ hk => hk.2) (.int .i64 t233)) (fun _ hk => hk.2) (.int .i64 t234)) (fun _ h_ => h_.1))) hb);have n1_ := Aside0.mk (Kd.V_lower (Kd.V_mono (ok' := fun k_ => some k_ ≠ (v231 : Value).ownBlock ∧ k_ ≠ gb229 ∧ k_ ≠ gb235) ho0 (fun k_ hk_ => ⟨(Kd.fresh' (Kd.R_lt (by (with_reducible repeat first|apply rA|apply rN|apply rD);exact (Kd.R_mono (Kd.R_far (p := ⟨gb235, 1, none⟩) (Kd.R_far (p := ⟨gb235, 0, none⟩) (Kd.R_types HO232.out BK235.out (by decide)) (fun _ hk => hk.2) (.int .i64 t233)) (fun _ hk => hk.2) (.int .i64 t234)) (fun _ h_ => h_.1)))) k_ hk_), (Kd.freshB (g := gb229) (o := .cells #[.slice A0_0 l0_0.length c0_0] 24 (0, 0)) (by (with_reducible repeat first|apply bN|apply bD|apply bA);refine blk_far ?_ NB229_235.out _;(with_reducible repeat first|apply bN|apply bD|apply bA);refine blk_far ?_ NB229_235.out _;(with_reducible repeat first|apply bN|apply bD|apply bA);exact BK229.out) k_ hk_), (Kd.freshB (g := gb235) (o := .cells #[.int .i64 t233, .int .i64 t234] 27 (0, 0)) (by (with_reducible repeat first|apply bN|apply bD|apply bA);refine blk_put (cs := #[.int .i64 t233, .int .i64 0]) ?_ 1 _ rfl;(with_reducible repeat first|apply bN|apply bD|apply bA);refine blk_put (cs := #[.int .i64 0, .int .i64 0]) ?_ 0 _ rfl;(with_reducible repeat first|apply bN|apply bD|apply bA);exact BK235.out) k_ hk_)⟩)) (below_size (by repeat (first|(with_reducible first|exact HB.out|apply eA|apply eN|apply eD|refine below_set ?_ GE229.out|refine below_set ?_ GE235.out)|exact HB.out))));have n2_ := Aside0.mk (blk_below (g := gb229) (o := .cells #[.slice A0_0 l0_0.length c0_0] 24 (0, 0)) (by (with_reducible repeat first|apply bN|apply bD|apply bA);refine blk_far ?_ NB229_235.out _;(with_reducible repeat first|apply bN|apply bD|apply bA);refine blk_far ?_ NB229_235.out _;(with_reducible repeat first|apply bN|apply bD|apply bA);exact BK229.out) hb);have n3_ := Aside0.mk (blk_below (g := gb235) (o := .cells #[.int .i64 t233, .int .i64 t234] 27 (0, 0)) (by (with_reducible repeat first|apply bN|apply bD|apply bA);refine blk_put (cs := #[.int .i64 t233, .int .i64 0]) ?_ 1 _ rfl;(with_reducible repeat first|apply bN|apply bD|apply bA);refine blk_put (cs := #[.int .i64 0, .int .i64 0]) ?_ 0 _ rfl;(with_reducible repeat first|apply bN|apply bD|apply bA);exact BK235.out) hb);have n4_ := Aside0.mk (below_step (by repeat (first|(with_reducible first|exact HB.out|apply eA|apply eN|apply eD|refine below_set ?_ GE229.out|refine below_set ?_ GE235.out)|exact HB.out)) hb);clear HO232;clear BK229;clear BK235;clear HB;have HO232 := n0_;have HO238 := n1_;have BK229 := n2_;have BK235 := n3_;have HB := n4_;clear n0_ n1_ n2_ n3_ n4_;(try clear hb);(try clear hb2);(try clear hk);(try clear hi);(try clear ho0))|((with_reducible refine gate_dst (N := 7) rfl ?_);refine box_event ?hg (N := 7) ?hd (cs := #[.slice none 0 0]) (t := 24) ?hr ?_;(case hd => rfl);(case hg => rfl);(case hr => first|(go_simp;done)|(go_simp;rfl));intro gb241 hg w14 hbox hb;have n0_ := Aside0.mk (Kd.R_below (by (with_reducible repeat first|apply rA|apply rN|apply rD);exact HO232.out) hb);have n1_ := Aside0.mk (Kd.V_below (Kd.V_elderB (by (with_reducible repeat (first|apply Kd.V_alloc|apply Kd.V_drewN|apply Kd.V_drew));exact HO238.out) gb241 (Nat.le_of_eq hg.symm)) hb);have n2_ := Aside0.mk (blk_below (g := gb229) (o := .cells #[.slice A0_0 l0_0.length c0_0] 24 (0, 0)) (by (with_reducible repeat first|apply bN|apply bD|apply bA);exact BK229.out) hb);have n3_ := Aside0.mk (blk_below (g := gb235) (o := .cells #[.int .i64 t233, .int .i64 t234] 27 (0, 0)) (by (with_reducible repeat first|apply bN|apply bD|apply bA);exact BK235.out) hb);have n4_ := Aside0.mk (below_step (by repeat (first|(with_reducible first|exact HB.out|apply eA|apply eN|apply eD|refine below_set ?_ GE229.out|refine below_set ?_ GE235.out)|exact HB.out)) hb);have n5_ := Aside0.mk (hbox);have n6_ := Aside0.mk ((by rw [hg];exact (below_size (by repeat (first|(with_reducible first|exact HB.out|apply eA|apply eN|apply eD|refine below_set ?_ GE229.out|refine below_set ?_ GE235.out)|exact HB.out))) : w.heap.size ≤ gb241));have n7_ := Aside0.mk ((by rw [hg];exact (below_size (by repeat (first|(with_reducible first|exact HB.out|apply eA|apply eN|apply eD|refine below_set ?_ GE229.out|refine below_set ?_ GE235.out)|exact HB.out))) : w.heap.size ≤ gb241));have n8_ := Aside0.mk ((by rw [hg];exact Nat.ne_of_lt (blk_lt (g := gb229) (o := .cells #[.slice A0_0 l0_0.length c0_0] 24 (0, 0)) (by (with_reducible repeat first|apply bN|apply bD|apply bA);exact BK229.out)) : gb229 ≠ gb241));have n9_ := Aside0.mk ((by rw [hg];exact Nat.ne_of_gt (blk_lt (g := gb229) (o := .cells #[.slice A0_0 l0_0.length c0_0] 24 (0, 0)) (by (with_reducible repeat first|apply bN|apply bD|apply bA);exact BK229.out)) : gb241 ≠ gb229));have n10_ := Aside0.mk ((by rw [hg];exact Nat.ne_of_lt (blk_lt (g := gb235) (o := .cells #[.int .i64 t233, .int .i64 t234] 27 (0, 0)) (by (with_reducible repeat first|apply bN|apply bD|apply bA);exact BK235.out)) : gb235 ≠ gb241));have n11_ := Aside0.mk ((by rw [hg];exact Nat.ne_of_gt (blk_lt (g := gb235) (o := .cells #[.int .i64 t233, .int .i64 t234] 27 (0, 0)) (by (with_reducible repeat first|apply bN|apply bD|apply bA);exact BK235.out)) : gb241 ≠ gb235));clear HO232;clear HO238;clear BK229;clear BK235;clear HB;have HO232 := n0_;have HO238 := n1_;have BK229 := n2_;have BK235 := n3_;have HB := n4_;have BK241 := n5_;have GW241 := n6_;have GE241 := n7_;have NB229_241 := n8_;have NB241_229 := n9_;have NB235_241 := n10_;have NB241_235 := n11_;clear n0_ n1_ n2_ n3_ n4_ n5_ n6_ n7_ n8_ n9_ n10_ n11_;clear hb hbox hg)|((with_reducible refine gate_dst (N := 8) rfl ?_);refine box_event ?hg (N := 8) ?hd (cs := #[.int .i64 0, .int .i64 0]) (t := 27) ?hr ?_;(case hd => rfl);(case hg => rfl);(case hr => first|(go_simp;done)|(go_simp;rfl));intro gb242 hg w15 hbox hb;have n0_ := Aside0.mk (Kd.R_below (by (with_reducible repeat first|apply rA|apply rN|apply rD);exact HO232.out) hb);have n1_ := Aside0.mk (Kd.V_below (Kd.V_elderB (by (with_reducible repeat (first|apply Kd.V_alloc|apply Kd.V_drewN|apply Kd.V_drew));exact HO238.out) gb242 (Nat.le_of_eq hg.symm)) hb);have n2_ := Aside0.mk (blk_below (g := gb229) (o := .cells #[.slice A0_0 l0_0.length c0_0] 24 (0, 0)) (by (with_reducible repeat first|apply bN|apply bD|apply bA);exact BK229.out) hb);have n3_ := Aside0.mk (blk_below (g := gb235) (o := .cells #[.int .i64 t233, .int .i64 t234] 27 (0, 0)) (by (with_reducible repeat first|apply bN|apply bD|apply bA);exact BK235.out) hb);have n4_ := Aside0.mk (blk_below (g := gb241) (o := .cells #[.slice none 0 0] 24 (0, 0)) (by (with_reducible repeat first|apply bN|apply bD|apply bA);exact BK241.out) hb);have n5_ := Aside0.mk (below_step (by repeat (first|(with_reducible first|exact HB.out|apply eA|apply eN|apply eD|refine below_set ?_ GE229.out|refine below_set ?_ GE235.out|refine below_set ?_ GE241.out)|exact HB.out)) hb);have n6_ := Aside0.mk (hbox);have n7_ := Aside0.mk ((by rw [hg];exact (below_size (by repeat (first|(with_reducible first|exact HB.out|apply eA|apply eN|apply eD|refine below_set ?_ GE229.out|refine below_set ?_ GE235.out|refine below_set ?_ GE241.out)|exact HB.out))) : w.heap.size ≤ gb242));have n8_ := Aside0.mk ((by rw [hg];exact (below_size (by repeat (first|(with_reducible first|exact HB.out|apply eA|apply eN|apply eD|refine below_set ?_ GE229.out|refine below_set ?_ GE235.out|refine below_set ?_ GE241.out)|exact HB.out))) : w.heap.size ≤ gb242));have n9_ := Aside0.mk ((by rw [hg];exact Nat.ne_of_lt (blk_lt (g := gb229) (o := .cells #[.slice A0_0 l0_0.length c0_0] 24 (0, 0)) (by (with_reducible repeat first|apply bN|apply bD|apply bA);exact BK229.out)) : gb229 ≠ gb242));have n10_ := Aside0.mk ((by rw [hg];exact Nat.ne_of_gt (blk_lt (g := gb229) (o := .cells #[.slice A0_0 l0_0.length c0_0] 24 (0, 0)) (by (with_reducible repeat first|apply bN|apply bD|apply bA);exact BK229.out)) : gb242 ≠ gb229));have n11_ := Aside0.mk ((by rw [hg];exact Nat.ne_of_lt (blk_lt (g := gb235) (o := .cells #[.int .i64 t233, .int .i64 t234] 27 (0, 0)) (by (with_reducible repeat first|apply bN|apply bD|apply bA);exact BK235.out)) : gb235 ≠ gb242));have n12_ := Aside0.mk ((by rw [hg];exact Nat.ne_of_gt (blk_lt (g := gb235) (o := .cells #[.int .i64 t233, .int .i64 t234] 27 (0, 0)) (by (with_reducible repeat first|apply bN|apply bD|apply bA);exact BK235.out)) : gb242 ≠ gb235));have n13_ := Aside0.mk ((by rw [hg];exact Nat.ne_of_lt (blk_lt (g := gb241) (o := .cells #[.slice none 0 0] 24 (0, 0)) (by (with_reducible repeat first|apply bN|apply bD|apply bA);exact BK241.out)) : gb241 ≠ gb242));have n14_ := Aside0.mk ((by rw [hg];exact Nat.ne_of_gt (blk_lt (g := gb241) (o := .cells #[.slice none 0 0] 24 (0, 0)) (by (with_reducible repeat first|apply bN|apply bD|apply bA);exact BK241.out)) : gb242 ≠ gb241));clear HO232;clear HO238;clear BK229;clear BK235;clear BK241;clear HB;have HO232 := n0_;have HO238 := n1_;have BK229 := n2_;have BK235 := n3_;have BK241 := n4_;have HB := n5_;have BK242 := n6_;have GW242 := n7_;have GE242 := n8_;have NB229_242 := n9_;have NB242_229 := n10_;have NB235_242 := n11_;have NB242_235 := n12_;have NB241_242 := n13_;have NB242_241 := n14_;clear n0_ n1_ n2_ n3_ n4_ n5_ n6_ n7_ n8_ n9_ n10_ n11_ n12_ n13_ n14_;clear hb hbox hg;obtain ⟨Ao16, co16, eo16⟩ := Kd.V_slice HO238.out;subst eo16;have hnb17 := NB241_229.out;have hnc17 := NB229_241.out;have hnb18 := NB241_235.out;have hnc18 := NB235_241.out;have hnb19 := NB241_242.out;have hnc19 := NB242_241.out;have hcz20_0 : w15.cell? ⟨gb241, 0, none⟩ = some (.slice none 0 0) := (blk_cell BK241.out 0).trans rfl;have hfz20_0 := blk_frozen BK241.out 0;have hnb21 := NB242_229.out;have hnc21 := NB229_242.out;have hnb22 := NB242_235.out;have hnc22 := NB235_242.out;have hcz23_0 : w15.cell? ⟨gb242, 0, none⟩ = some (.int .i64 0) := (blk_cell BK242.out 0).trans rfl;have hcz23_1 : w15.cell? ⟨gb242, 1, none⟩ = some (.int .i64 0) := (blk_cell BK242.out 1).trans rfl;have hfz23_0 := blk_frozen BK242.out 0;have hfz23_1 := blk_frozen BK242.out 1))
  (try simp only [Act.put, sA, sB, sC])
  go_cut [29] (fun v29 wc => ∃ (kq : Nat) (x29_4 : Bool), v29 = .bool x29_4 ∧ Aside0 (changeforgelaw1_TextpatchUndo.j0 kq l1 t230 x29_4 t236 = some r) ∧ Aside0 (kq ≤ k) ∧ Aside0 (Kd.R Kd.string 9 wc w.heap.size (fun _ => True) v231 t230) ∧ Aside0 (Kd.V k47 47 wc w.heap.size (fun k_ => some k_ ≠ (v231 : Value).ownBlock ∧ k_ ≠ gb229 ∧ k_ ≠ gb235 ∧ k_ ≠ gb241 ∧ k_ ≠ gb242) (.slice Ao16 t236.length co16) t236) ∧ Aside0 (wc.heap[gb229]? = some (.cells #[(.slice A0_0 l0_0.length c0_0)] 24 (0, 0))) ∧ Aside0 (wc.heap[gb235]? = some (.cells #[.int .i64 t233, .int .i64 t234] 27 (0, 0))) ∧ Aside0 (wc.heap[gb241]? = some (.cells #[(.slice Ao16 t236.length co16)] 24 (0, 0))) ∧ Aside0 (wc.heap[gb242]? = some (.cells #[.int .i64 t239, .int .i64 t240] 27 (0, 0))) ∧ Aside0 (Below w.heap.size w wc))
  case first =>
    have H := HC5.out
    clear HC5
    by_cases c24 : t233 = 0
    · rw [if_pos c24] at H
      have c24b0 : (t233 == 0) = true := beq_iff_eq.mpr c24
      have c24b1 : (t233 != 0) = false := bne_eq_false_iff_eq.mpr c24
      clear c24
      (first|rw [c24b0]|(simp only [i64_w, i32_w];rw [c24b0])|skip)
      have H' := Aside0.mk H
      clear H
      have hnb25 := NB235_229.out
      have hnc25 := NB229_235.out
      have hnb26 := NB235_241.out
      have hnc26 := NB241_235.out
      have hnb27 := NB235_242.out
      have hnc27 := NB242_235.out
      have hcz28_0 : w15.cell? ⟨gb235, 0, none⟩ = some (.int .i64 t233) := (blk_cell BK235.out 0).trans rfl
      have hcz28_1 : w15.cell? ⟨gb235, 1, none⟩ = some (.int .i64 t234) := (blk_cell BK235.out 1).trans rfl
      have hfz28_0 := blk_frozen BK235.out 0
      have hfz28_1 := blk_frozen BK235.out 1
      have hnb29 := NB242_229.out
      have hnc29 := NB229_242.out
      have hnb30 := NB242_241.out
      have hnc30 := NB241_242.out
      have hcz31_0 : w15.cell? ⟨gb242, 0, none⟩ = some (.int .i64 0) := (blk_cell BK242.out 0).trans rfl
      have hcz31_1 : w15.cell? ⟨gb242, 1, none⟩ = some (.int .i64 0) := (blk_cell BK242.out 1).trans rfl
      have hfz31_0 := blk_frozen BK242.out 0
      have hfz31_1 := blk_frozen BK242.out 1
      go_wp2
      go_meet
      case rel => exact ⟨_, ((t239 != 0)), (by first|rfl|(simp;done)|(simp [*];done)), H', ⟨by first|omega|exact Nat.le_refl _⟩, ⟨by (with_reducible repeat first|apply rA|apply rN|apply rD);exact Kd.R_mono (Kd.R_far (p := ⟨gb242, 1, none⟩) (Kd.R_far (p := ⟨gb242, 0, none⟩) (Kd.R_far (p := ⟨gb241, 0, none⟩) (Kd.R_types (Kd.R_types HO232.out BK241.out (by decide)) BK242.out (by decide)) (fun _ hk => hk.1.2) (.slice Ao16 t236.length co16)) (fun _ hk => hk.2) (.int .i64 t239)) (fun _ hk => hk.2) (.int .i64 t240)) (fun _ hk => trivial)⟩, ⟨by (with_reducible repeat (first|apply Kd.V_alloc|apply Kd.V_drewN|apply Kd.V_drew));exact Kd.V_mono (Kd.V_far (p := ⟨gb242, 1, none⟩) (Kd.V_far (p := ⟨gb242, 0, none⟩) (Kd.V_far (p := ⟨gb241, 0, none⟩) (Kd.V_mono (Kd.V_mono HO238.out (fun k_ hk => (⟨hk, hk.1.2⟩ : _ ∧ k_ ≠ gb241))) (fun k_ hk => (⟨hk, hk.1.2⟩ : _ ∧ k_ ≠ gb242))) (fun _ hk => hk.1.2) (.slice Ao16 t236.length co16)) (fun _ hk => hk.2) (.int .i64 t239)) (fun _ hk => hk.2) (.int .i64 t240)) (fun _ hk => ⟨hk.1.1.1.1.1, ⟨hk.1.1.1.1.2.1, ⟨hk.1.1.1.1.2.2, ⟨hk.1.1.1.2, hk.1.1.2⟩⟩⟩⟩)⟩, ⟨by (with_reducible repeat first|apply bN|apply bD|apply bA);refine blk_far ?_ NB229_242.out _;(with_reducible repeat first|apply bN|apply bD|apply bA);refine blk_far ?_ NB229_242.out _;(with_reducible repeat first|apply bN|apply bD|apply bA);refine blk_far ?_ NB229_241.out _;(with_reducible repeat first|apply bN|apply bD|apply bA);exact BK229.out⟩, ⟨by (with_reducible repeat first|apply bN|apply bD|apply bA);refine blk_far ?_ NB235_242.out _;(with_reducible repeat first|apply bN|apply bD|apply bA);refine blk_far ?_ NB235_242.out _;(with_reducible repeat first|apply bN|apply bD|apply bA);refine blk_far ?_ NB235_241.out _;(with_reducible repeat first|apply bN|apply bD|apply bA);exact BK235.out⟩, ⟨by (with_reducible repeat first|apply bN|apply bD|apply bA);refine blk_far ?_ NB241_242.out _;(with_reducible repeat first|apply bN|apply bD|apply bA);refine blk_far ?_ NB241_242.out _;(with_reducible repeat first|apply bN|apply bD|apply bA);refine blk_put (cs := #[.slice none 0 0]) ?_ 0 _ rfl;(with_reducible repeat first|apply bN|apply bD|apply bA);exact BK241.out⟩, ⟨by (with_reducible repeat first|apply bN|apply bD|apply bA);refine blk_put (cs := #[.int .i64 t239, .int .i64 0]) ?_ 1 _ rfl;(with_reducible repeat first|apply bN|apply bD|apply bA);refine blk_put (cs := #[.int .i64 0, .int .i64 0]) ?_ 0 _ rfl;(with_reducible repeat first|apply bN|apply bD|apply bA);refine blk_far ?_ NB242_241.out _;(with_reducible repeat first|apply bN|apply bD|apply bA);exact BK242.out⟩, ⟨by repeat (first|(with_reducible first|exact HB.out|apply eA|apply eN|apply eD|refine below_set ?_ GE229.out|refine below_set ?_ GE235.out|refine below_set ?_ GE241.out|refine below_set ?_ GE242.out)|exact HB.out)⟩⟩
    · rw [if_neg c24] at H
      have c24b0 : (t233 == 0) = false := beq_eq_false_iff_ne.mpr c24
      have c24b1 : (t233 != 0) = true := bne_iff_ne.mpr c24
      (first|rw [c24b0]|(simp only [i64_w, i32_w];rw [c24b0])|skip)
      have H' := Aside0.mk H
      clear H
      have hnb32 := NB235_229.out
      have hnc32 := NB229_235.out
      have hnb33 := NB235_241.out
      have hnc33 := NB241_235.out
      have hnb34 := NB235_242.out
      have hnc34 := NB242_235.out
      have hcz35_0 : w15.cell? ⟨gb235, 0, none⟩ = some (.int .i64 t233) := (blk_cell BK235.out 0).trans rfl
      have hcz35_1 : w15.cell? ⟨gb235, 1, none⟩ = some (.int .i64 t234) := (blk_cell BK235.out 1).trans rfl
      have hfz35_0 := blk_frozen BK235.out 0
      have hfz35_1 := blk_frozen BK235.out 1
      go_wp2
      go_meet
      case rel => exact ⟨_, (true), (by first|rfl|(simp;done)|(simp [*];done)), H', ⟨by first|omega|exact Nat.le_refl _⟩, ⟨by (with_reducible repeat first|apply rA|apply rN|apply rD);exact Kd.R_mono (Kd.R_far (p := ⟨gb242, 1, none⟩) (Kd.R_far (p := ⟨gb242, 0, none⟩) (Kd.R_far (p := ⟨gb241, 0, none⟩) (Kd.R_types (Kd.R_types HO232.out BK241.out (by decide)) BK242.out (by decide)) (fun _ hk => hk.1.2) (.slice Ao16 t236.length co16)) (fun _ hk => hk.2) (.int .i64 t239)) (fun _ hk => hk.2) (.int .i64 t240)) (fun _ hk => trivial)⟩, ⟨by (with_reducible repeat (first|apply Kd.V_alloc|apply Kd.V_drewN|apply Kd.V_drew));exact Kd.V_mono (Kd.V_far (p := ⟨gb242, 1, none⟩) (Kd.V_far (p := ⟨gb242, 0, none⟩) (Kd.V_far (p := ⟨gb241, 0, none⟩) (Kd.V_mono (Kd.V_mono HO238.out (fun k_ hk => (⟨hk, hk.1.2⟩ : _ ∧ k_ ≠ gb241))) (fun k_ hk => (⟨hk, hk.1.2⟩ : _ ∧ k_ ≠ gb242))) (fun _ hk => hk.1.2) (.slice Ao16 t236.length co16)) (fun _ hk => hk.2) (.int .i64 t239)) (fun _ hk => hk.2) (.int .i64 t240)) (fun _ hk => ⟨hk.1.1.1.1.1, ⟨hk.1.1.1.1.2.1, ⟨hk.1.1.1.1.2.2, ⟨hk.1.1.1.2, hk.1.1.2⟩⟩⟩⟩)⟩, ⟨by (with_reducible repeat first|apply bN|apply bD|apply bA);refine blk_far ?_ NB229_242.out _;(with_reducible repeat first|apply bN|apply bD|apply bA);refine blk_far ?_ NB229_242.out _;(with_reducible repeat first|apply bN|apply bD|apply bA);refine blk_far ?_ NB229_241.out _;(with_reducible repeat first|apply bN|apply bD|apply bA);exact BK229.out⟩, ⟨by (with_reducible repeat first|apply bN|apply bD|apply bA);refine blk_far ?_ NB235_242.out _;(with_reducible repeat first|apply bN|apply bD|apply bA);refine blk_far ?_ NB235_242.out _;(with_reducible repeat first|apply bN|apply bD|apply bA);refine blk_far ?_ NB235_241.out _;(with_reducible repeat first|apply bN|apply bD|apply bA);exact BK235.out⟩, ⟨by (with_reducible repeat first|apply bN|apply bD|apply bA);refine blk_far ?_ NB241_242.out _;(with_reducible repeat first|apply bN|apply bD|apply bA);refine blk_far ?_ NB241_242.out _;(with_reducible repeat first|apply bN|apply bD|apply bA);refine blk_put (cs := #[.slice none 0 0]) ?_ 0 _ rfl;(with_reducible repeat first|apply bN|apply bD|apply bA);exact BK241.out⟩, ⟨by (with_reducible repeat first|apply bN|apply bD|apply bA);refine blk_put (cs := #[.int .i64 t239, .int .i64 0]) ?_ 1 _ rfl;(with_reducible repeat first|apply bN|apply bD|apply bA);refine blk_put (cs := #[.int .i64 0, .int .i64 0]) ?_ 0 _ rfl;(with_reducible repeat first|apply bN|apply bD|apply bA);refine blk_far ?_ NB242_241.out _;(with_reducible repeat first|apply bN|apply bD|apply bA);exact BK242.out⟩, ⟨by repeat (first|(with_reducible first|exact HB.out|apply eA|apply eN|apply eD|refine below_set ?_ GE229.out|refine below_set ?_ GE235.out|refine below_set ?_ GE241.out|refine below_set ?_ GE242.out)|exact HB.out)⟩⟩
  case rest =>
    clear HC5
    try clear c1
    try clear c2
    try clear p2
    try clear c3
    try clear c4
    try clear c10
    try clear c15
    try clear c17
    try clear c18
    try clear c19
    try clear c21
    try clear c22
    try clear c24
    try clear c24b0
    try clear c24b1
    try clear c25
    try clear c26
    try clear c27
    try clear c29
    try clear c30
    try clear c32
    try clear c33
    try clear c34
    try clear hcz11_0
    try clear hcz11_1
    try clear hcz12_0
    try clear hcz20_0
    try clear hcz23_0
    try clear hcz23_1
    try clear hcz28_0
    try clear hcz28_1
    try clear hcz31_0
    try clear hcz31_1
    try clear hcz35_0
    try clear hcz35_1
    try clear hcz7_0
    try clear hfz11_0
    try clear hfz11_1
    try clear hfz12_0
    try clear hfz20_0
    try clear hfz23_0
    try clear hfz23_1
    try clear hfz28_0
    try clear hfz28_1
    try clear hfz31_0
    try clear hfz31_1
    try clear hfz35_0
    try clear hfz35_1
    try clear hfz7_0
    obtain ⟨kq, x29_4, rfl, HA, HJ4, HO_5, HO_242000, BK229, BK235, BK241, BK242, HB⟩ := hcut
    cases kq with
    | zero => exact absurd HA.out (by simp [changeforgelaw1_TextpatchUndo.j0])
    | succ kj4 =>
      have H := HA.out
      clear HA
      simp only [changeforgelaw1_TextpatchUndo.j0] at H
      by_cases c36 : x29_4 = true
      · subst c36
        have H1 : ((changeforgelaw1_replaced.f kj4).bind fun t243 => (some t243)) = some r := by rw [if_pos rfl] at H;exact H
        clear H
        have H := H1
        clear H1
        replace H := Option.bind_eq_some_iff.mp H
        obtain ⟨t243, A370, H⟩ := H
        replace H : (some t243) = some r := H
        have A37 := Aside0.mk A370
        clear A370
        obtain rfl := Option.some.inj H
        go_wp2_with (first|((with_reducible refine gate_callee (f := 23) rfl ?_);refine goesL_ (some 30) rfl rfl Try.func23 (by kernel_rfl) rfl #[] rfl (by (try simp only [List.map_toArray, List.map_cons, List.map_nil]);first|done|rfl|(simp only [List.length_drop, List.length_take];rfl)) ?_;(with_reducible refine (changeforgelaw1_replaced.calls kj4  t243 _ A37.out hrt).mono ?_);rintro e w38 ⟨rfl, hb⟩;refine ⟨_, rfl, ?_⟩;have n0_ := Aside0.mk (Kd.R_below (by (with_reducible repeat first|apply rA|apply rN|apply rD);exact HO_5.out) hb);have n1_ := Aside0.mk (Kd.V_below (by (with_reducible repeat (first|apply Kd.V_alloc|apply Kd.V_drewN|apply Kd.V_drew));exact HO_242000.out) hb);have n2_ := Aside0.mk (blk_below (g := gb229) (o := .cells #[.slice A0_0 l0_0.length c0_0] 24 (0, 0)) (by (with_reducible repeat first|apply bN|apply bD|apply bA);exact BK229.out) hb);have n3_ := Aside0.mk (blk_below (g := gb235) (o := .cells #[.int .i64 t233, .int .i64 t234] 27 (0, 0)) (by (with_reducible repeat first|apply bN|apply bD|apply bA);exact BK235.out) hb);have n4_ := Aside0.mk (blk_below (g := gb241) (o := .cells #[.slice Ao16 t236.length co16] 24 (0, 0)) (by (with_reducible repeat first|apply bN|apply bD|apply bA);exact BK241.out) hb);have n5_ := Aside0.mk (blk_below (g := gb242) (o := .cells #[.int .i64 t239, .int .i64 t240] 27 (0, 0)) (by (with_reducible repeat first|apply bN|apply bD|apply bA);exact BK242.out) hb);have n6_ := Aside0.mk (below_step (by repeat (first|(with_reducible first|exact HB.out|apply eA|apply eN|apply eD|refine below_set ?_ GE229.out|refine below_set ?_ GE235.out|refine below_set ?_ GE241.out|refine below_set ?_ GE242.out)|exact HB.out)) hb);clear HO_5;clear HO_242000;clear BK229;clear BK235;clear BK241;clear BK242;clear HB;have HO_5 := n0_;have HO_242000 := n1_;have BK229 := n2_;have BK235 := n3_;have BK241 := n4_;have BK242 := n5_;have HB := n6_;clear n0_ n1_ n2_ n3_ n4_ n5_ n6_;(try clear hb);(try clear hb2);(try clear hk);(try clear hi)))
        go_ret
        exact ⟨by first|rfl|(simp [errW_none, errW_some] <;> rfl)|(simp [*, errW_none, errW_some] <;> rfl), by repeat (first|(with_reducible first|exact HB.out|apply eA|apply eN|apply eD|refine below_set ?_ GE229.out|refine below_set ?_ GE235.out|refine below_set ?_ GE241.out|refine below_set ?_ GE242.out)|exact HB.out)⟩
      · replace c36 := Bool.eq_false_iff.mpr c36
        subst c36
        have H1 : ((textpatch_Apply.f t236 t230).bind fun bt244 => (if bt244.2.1 = 0 then ((changeforgeequal_Strings.f bt244.1 l1).bind fun t250 => (if t250 = true then ((changeforgelaw1_replaced.f kj4).bind fun t251 => (some t251)) else (some false))) else (some false))) = some r := by rw [if_neg (show ¬ (false = true) by decide)] at H;exact H
        clear H
        have H := H1
        clear H1
        replace H := Option.bind_eq_some_iff.mp H
        obtain ⟨⟨t244, t247, t248⟩, A390, H⟩ := H
        replace H : (if t247 = 0 then ((changeforgeequal_Strings.f t244 l1).bind fun t250 => (if t250 = true then ((changeforgelaw1_replaced.f kj4).bind fun t251 => (some t251)) else (some false))) else (some false)) = some r := H
        have A39 := Aside0.mk A390
        clear A390
        by_cases c40 : t247 = 0
        · rw [if_pos c40] at H
          have c40b0 : (t247 == 0) = true := beq_iff_eq.mpr c40
          have c40b1 : (t247 != 0) = false := bne_eq_false_iff_eq.mpr c40
          clear c40
          replace H := Option.bind_eq_some_iff.mp H
          obtain ⟨t250, A410, H⟩ := H
          replace H : (if t250 = true then ((changeforgelaw1_replaced.f kj4).bind fun t251 => (some t251)) else (some false)) = some r := H
          have A41 := Aside0.mk A410
          clear A410
          by_cases c42 : t250 = true
          · subst c42
            have H1 : ((changeforgelaw1_replaced.f kj4).bind fun t251 => (some t251)) = some r := by rw [if_pos rfl] at H;exact H
            clear H
            have H := H1
            clear H1
            replace H := Option.bind_eq_some_iff.mp H
            obtain ⟨t251, A430, H⟩ := H
            replace H : (some t251) = some r := H
            have A43 := Aside0.mk A430
            clear A430
            obtain rfl := Option.some.inj H
            have hnb44 := NB241_229.out
            have hnc44 := NB229_241.out
            have hnb45 := NB241_235.out
            have hnc45 := NB235_241.out
            have hnb46 := NB241_242.out
            have hnc46 := NB242_241.out
            have hcz47_0 : wc.cell? ⟨gb241, 0, none⟩ = some (.slice Ao16 t236.length co16) := (blk_cell BK241.out 0).trans rfl
            have hfz47_0 := blk_frozen BK241.out 0
            obtain ⟨Ao48, co48, eo48⟩ := Kd.R_slice HO_5.out
            subst eo48
            go_wp2_with (first|((with_reducible refine gate_callee (f := 15) rfl ?_);refine goesL_ (some 34) rfl rfl Try.func15 (by kernel_rfl) rfl #[.agg #[.slice Ao16 t236.length co16], .slice Ao48 t230.length co48] rfl (by (try simp only [List.map_toArray, List.map_cons, List.map_nil]);first|done|rfl|(simp only [List.length_drop, List.length_take];rfl)) ?_;(with_reducible refine (textpatch_Apply.calls _ _ t236 _ _ t230 t244 t247 t248 _ ?side1 ?side2 ?side3 ?side4 A39.out).mono ?_);(case side1 => repeat (first|exact (Kd.V_reads' HO_242000.out).2.2|(with_reducible refine Kd.C_alloc ?_ _)|(with_reducible refine Kd.C_drewN ?_ _)|(with_reducible refine Kd.C_drew ?_)));(case side2 => exact (Kd.V_reads' HO_242000.out).2.1);(case side3 => repeat (first|exact (Kd.R_reads' HO_5.out).2.2|(with_reducible refine Kd.C_alloc ?_ _)|(with_reducible refine Kd.C_drewN ?_ _)|(with_reducible refine Kd.C_drew ?_)));(case side4 => exact (Kd.R_reads' HO_5.out).2.1);rintro e w49 ⟨v245, rfl, ho0, hb⟩;refine ⟨_, rfl, ?_⟩;have n0_ := Aside0.mk (Kd.R_elder' (by (with_reducible repeat first|apply rA|apply rN|apply rD);exact HO_5.out) (Kd.R_base ho0) hb);have n1_ := Aside0.mk (Kd.V_elder' (by (with_reducible repeat (first|apply Kd.V_alloc|apply Kd.V_drewN|apply Kd.V_drew));exact HO_242000.out) (Kd.R_base ho0) hb);have n2_ := Aside0.mk (Kd.R_lower (Kd.R_new' ho0 (Kd.R_lt (by (with_reducible repeat first|apply rA|apply rN|apply rD);exact HO_5.out))) (below_size (by repeat (first|(with_reducible first|exact HB.out|apply eA|apply eN|apply eD|refine below_set ?_ GE229.out|refine below_set ?_ GE235.out|refine below_set ?_ GE241.out|refine below_set ?_ GE242.out)|exact HB.out))));have n3_ := Aside0.mk (blk_below (g := gb229) (o := .cells #[.slice A0_0 l0_0.length c0_0] 24 (0, 0)) (by (with_reducible repeat first|apply bN|apply bD|apply bA);exact BK229.out) hb);have n4_ := Aside0.mk (blk_below (g := gb235) (o := .cells #[.int .i64 t233, .int .i64 t234] 27 (0, 0)) (by (with_reducible repeat first|apply bN|apply bD|apply bA);exact BK235.out) hb);have n5_ := Aside0.mk (blk_below (g := gb241) (o := .cells #[.slice Ao16 t236.length co16] 24 (0, 0)) (by (with_reducible repeat first|apply bN|apply bD|apply bA);exact BK241.out) hb);have n6_ := Aside0.mk (blk_below (g := gb242) (o := .cells #[.int .i64 t239, .int .i64 t240] 27 (0, 0)) (by (with_reducible repeat first|apply bN|apply bD|apply bA);exact BK242.out) hb);have n7_ := Aside0.mk (below_step (by repeat (first|(with_reducible first|exact HB.out|apply eA|apply eN|apply eD|refine below_set ?_ GE229.out|refine below_set ?_ GE235.out|refine below_set ?_ GE241.out|refine below_set ?_ GE242.out)|exact HB.out)) hb);clear HO_5;clear HO_242000;clear BK229;clear BK235;clear BK241;clear BK242;clear HB;have HO_5 := n0_;have HO_242000 := n1_;have HO246 := n2_;have BK229 := n3_;have BK235 := n4_;have BK241 := n5_;have BK242 := n6_;have HB := n7_;clear n0_ n1_ n2_ n3_ n4_ n5_ n6_ n7_;(try clear hb);(try clear hb2);(try clear hk);(try clear hi);(try clear ho0))|((with_reducible refine gate_dst (N := 10) rfl ?_);refine box_event ?hg (N := 10) ?hd (cs := #[.int .i64 0, .int .i64 0]) (t := 27) ?hr ?_;(case hd => rfl);(case hg => rfl);(case hr => first|(go_simp;done)|(go_simp;rfl));intro gb249 hg w50 hbox hb;have n0_ := Aside0.mk (Kd.R_below (by (with_reducible repeat first|apply rA|apply rN|apply rD);exact HO_5.out) hb);have n1_ := Aside0.mk (Kd.V_below (Kd.V_elderB (by (with_reducible repeat (first|apply Kd.V_alloc|apply Kd.V_drewN|apply Kd.V_drew));exact HO_242000.out) gb249 (Nat.le_of_eq hg.symm)) hb);have n2_ := Aside0.mk (Kd.R_below (by (with_reducible repeat first|apply rA|apply rN|apply rD);exact HO246.out) hb);have n3_ := Aside0.mk (blk_below (g := gb229) (o := .cells #[.slice A0_0 l0_0.length c0_0] 24 (0, 0)) (by (with_reducible repeat first|apply bN|apply bD|apply bA);exact BK229.out) hb);have n4_ := Aside0.mk (blk_below (g := gb235) (o := .cells #[.int .i64 t233, .int .i64 t234] 27 (0, 0)) (by (with_reducible repeat first|apply bN|apply bD|apply bA);exact BK235.out) hb);have n5_ := Aside0.mk (blk_below (g := gb241) (o := .cells #[.slice Ao16 t236.length co16] 24 (0, 0)) (by (with_reducible repeat first|apply bN|apply bD|apply bA);exact BK241.out) hb);have n6_ := Aside0.mk (blk_below (g := gb242) (o := .cells #[.int .i64 t239, .int .i64 t240] 27 (0, 0)) (by (with_reducible repeat first|apply bN|apply bD|apply bA);exact BK242.out) hb);have n7_ := Aside0.mk (below_step (by repeat (first|(with_reducible first|exact HB.out|apply eA|apply eN|apply eD|refine below_set ?_ GE229.out|refine below_set ?_ GE235.out|refine below_set ?_ GE241.out|refine below_set ?_ GE242.out)|exact HB.out)) hb);have n8_ := Aside0.mk (hbox);have n9_ := Aside0.mk ((by rw [hg];exact (below_size (by repeat (first|(with_reducible first|exact HB.out|apply eA|apply eN|apply eD|refine below_set ?_ GE229.out|refine below_set ?_ GE235.out|refine below_set ?_ GE241.out|refine below_set ?_ GE242.out)|exact HB.out))) : w.heap.size ≤ gb249));have n10_ := Aside0.mk ((by rw [hg];exact (below_size (by repeat (first|(with_reducible first|exact HB.out|apply eA|apply eN|apply eD|refine below_set ?_ GE229.out|refine below_set ?_ GE235.out|refine below_set ?_ GE241.out|refine below_set ?_ GE242.out)|exact HB.out))) : w.heap.size ≤ gb249));have n11_ := Aside0.mk ((by rw [hg];exact Nat.ne_of_lt (blk_lt (g := gb229) (o := .cells #[.slice A0_0 l0_0.length c0_0] 24 (0, 0)) (by (with_reducible repeat first|apply bN|apply bD|apply bA);exact BK229.out)) : gb229 ≠ gb249));have n12_ := Aside0.mk ((by rw [hg];exact Nat.ne_of_gt (blk_lt (g := gb229) (o := .cells #[.slice A0_0 l0_0.length c0_0] 24 (0, 0)) (by (with_reducible repeat first|apply bN|apply bD|apply bA);exact BK229.out)) : gb249 ≠ gb229));have n13_ := Aside0.mk ((by rw [hg];exact Nat.ne_of_lt (blk_lt (g := gb235) (o := .cells #[.int .i64 t233, .int .i64 t234] 27 (0, 0)) (by (with_reducible repeat first|apply bN|apply bD|apply bA);exact BK235.out)) : gb235 ≠ gb249));have n14_ := Aside0.mk ((by rw [hg];exact Nat.ne_of_gt (blk_lt (g := gb235) (o := .cells #[.int .i64 t233, .int .i64 t234] 27 (0, 0)) (by (with_reducible repeat first|apply bN|apply bD|apply bA);exact BK235.out)) : gb249 ≠ gb235));have n15_ := Aside0.mk ((by rw [hg];exact Nat.ne_of_lt (blk_lt (g := gb241) (o := .cells #[.slice Ao16 t236.length co16] 24 (0, 0)) (by (with_reducible repeat first|apply bN|apply bD|apply bA);exact BK241.out)) : gb241 ≠ gb249));have n16_ := Aside0.mk ((by rw [hg];exact Nat.ne_of_gt (blk_lt (g := gb241) (o := .cells #[.slice Ao16 t236.length co16] 24 (0, 0)) (by (with_reducible repeat first|apply bN|apply bD|apply bA);exact BK241.out)) : gb249 ≠ gb241));have n17_ := Aside0.mk ((by rw [hg];exact Nat.ne_of_lt (blk_lt (g := gb242) (o := .cells #[.int .i64 t239, .int .i64 t240] 27 (0, 0)) (by (with_reducible repeat first|apply bN|apply bD|apply bA);exact BK242.out)) : gb242 ≠ gb249));have n18_ := Aside0.mk ((by rw [hg];exact Nat.ne_of_gt (blk_lt (g := gb242) (o := .cells #[.int .i64 t239, .int .i64 t240] 27 (0, 0)) (by (with_reducible repeat first|apply bN|apply bD|apply bA);exact BK242.out)) : gb249 ≠ gb242));clear HO_5;clear HO_242000;clear HO246;clear BK229;clear BK235;clear BK241;clear BK242;clear HB;have HO_5 := n0_;have HO_242000 := n1_;have HO246 := n2_;have BK229 := n3_;have BK235 := n4_;have BK241 := n5_;have BK242 := n6_;have HB := n7_;have BK249 := n8_;have GW249 := n9_;have GE249 := n10_;have NB229_249 := n11_;have NB249_229 := n12_;have NB235_249 := n13_;have NB249_235 := n14_;have NB241_249 := n15_;have NB249_241 := n16_;have NB242_249 := n17_;have NB249_242 := n18_;clear n0_ n1_ n2_ n3_ n4_ n5_ n6_ n7_ n8_ n9_ n10_ n11_ n12_ n13_ n14_ n15_ n16_ n17_ n18_;clear hb hbox hg;have hnb51 := NB249_229.out;have hnc51 := NB229_249.out;have hnb52 := NB249_235.out;have hnc52 := NB235_249.out;have hnb53 := NB249_241.out;have hnc53 := NB241_249.out;have hnb54 := NB249_242.out;have hnc54 := NB242_249.out;have hcz55_0 : w50.cell? ⟨gb249, 0, none⟩ = some (.int .i64 0) := (blk_cell BK249.out 0).trans rfl;have hcz55_1 : w50.cell? ⟨gb249, 1, none⟩ = some (.int .i64 0) := (blk_cell BK249.out 1).trans rfl;have hfz55_0 := blk_frozen BK249.out 0;have hfz55_1 := blk_frozen BK249.out 1;obtain ⟨Ao56, co56, eo56⟩ := Kd.R_slice HO246.out;subst eo56)|(go_at_call 21;(with_reducible refine (changeforgeequal_Strings.calls _ _ t244 _ _ l1 true _ ?side1 ?side2 ?side3 ?side4 A41.out).mono ?_);(case side1 => refine (Kd.R_reads' (e := 9) (base := w.heap.size) (ok := fun k_ => (True ∧ some k_ ≠ (.slice Ao48 t230.length co48 : Value).ownBlock)) (n := t244.length) (c := co56) ?_).2.2;exact (by (with_reducible repeat first|apply rA|apply rN|apply rD);exact (Kd.R_mono (Kd.R_far (p := ⟨gb249, 1, none⟩) (Kd.R_far (p := ⟨gb249, 0, none⟩) (Kd.R_types HO246.out BK249.out (by decide)) (fun _ hk => hk.2) (.int .i64 t247)) (fun _ hk => hk.2) (.int .i64 t248)) (fun _ h_ => h_.1))));(case side2 => exact (Kd.R_reads' HO246.out).2.1);(case side3 => exact Kd.C_below HR1.out (by repeat (first|(with_reducible first|exact HB.out|apply eA|apply eN|apply eD|refine below_set ?_ GE229.out|refine below_set ?_ GE235.out|refine below_set ?_ GE241.out|refine below_set ?_ GE242.out|refine below_set ?_ GE249.out)|exact HB.out)));(case side4 => exact HC1.out);rintro e w' ⟨rfl, ⟨nd, rfl⟩⟩)|(go_at_call 23;(with_reducible refine (changeforgelaw1_replaced.calls kj4  t251 _ A43.out hrt).mono ?_);rintro e w57 ⟨rfl, hb⟩;have n0_ := Aside0.mk (Kd.R_below (by (with_reducible repeat first|apply rA|apply rN|apply rD);exact (Kd.R_mono (Kd.R_far (p := ⟨gb249, 1, none⟩) (Kd.R_far (p := ⟨gb249, 0, none⟩) (Kd.R_types HO_5.out BK249.out (by decide)) (fun _ hk => hk.2) (.int .i64 t247)) (fun _ hk => hk.2) (.int .i64 t248)) (fun _ h_ => h_.1))) hb);have n1_ := Aside0.mk (Kd.V_below (by (with_reducible repeat (first|apply Kd.V_alloc|apply Kd.V_drewN|apply Kd.V_drew));exact (Kd.V_mono (Kd.V_far (p := ⟨gb249, 1, none⟩) (Kd.V_far (p := ⟨gb249, 0, none⟩) (Kd.V_mono HO_242000.out (fun k_ hk => (⟨hk, hk.2⟩ : _ ∧ k_ ≠ gb249))) (fun _ hk => hk.2) (.int .i64 t247)) (fun _ hk => hk.2) (.int .i64 t248)) (fun _ h_ => h_.1))) hb);have n2_ := Aside0.mk (Kd.R_below (by (with_reducible repeat first|apply rA|apply rN|apply rD);exact (Kd.R_mono (Kd.R_far (p := ⟨gb249, 1, none⟩) (Kd.R_far (p := ⟨gb249, 0, none⟩) (Kd.R_types HO246.out BK249.out (by decide)) (fun _ hk => hk.2) (.int .i64 t247)) (fun _ hk => hk.2) (.int .i64 t248)) (fun _ h_ => h_.1))) hb);have n3_ := Aside0.mk (blk_below (g := gb229) (o := .cells #[.slice A0_0 l0_0.length c0_0] 24 (0, 0)) (by (with_reducible repeat first|apply bN|apply bD|apply bA);refine blk_far ?_ NB229_249.out _;(with_reducible repeat first|apply bN|apply bD|apply bA);refine blk_far ?_ NB229_249.out _;(with_reducible repeat first|apply bN|apply bD|apply bA);exact BK229.out) hb);have n4_ := Aside0.mk (blk_below (g := gb235) (o := .cells #[.int .i64 t233, .int .i64 t234] 27 (0, 0)) (by (with_reducible repeat first|apply bN|apply bD|apply bA);refine blk_far ?_ NB235_249.out _;(with_reducible repeat first|apply bN|apply bD|apply bA);refine blk_far ?_ NB235_249.out _;(with_reducible repeat first|apply bN|apply bD|apply bA);exact BK235.out) hb);have n5_ := Aside0.mk (blk_below (g := gb241) (o := .cells #[.slice Ao16 t236.length co16] 24 (0, 0)) (by (with_reducible repeat first|apply bN|apply bD|apply bA);refine blk_far ?_ NB241_249.out _;(with_reducible repeat first|apply bN|apply bD|apply bA);refine blk_far ?_ NB241_249.out _;(with_reducible repeat first|apply bN|apply bD|apply bA);exact BK241.out) hb);have n6_ := Aside0.mk (blk_below (g := gb242) (o := .cells #[.int .i64 t239, .int .i64 t240] 27 (0, 0)) (by (with_reducible repeat first|apply bN|apply bD|apply bA);refine blk_far ?_ NB242_249.out _;(with_reducible repeat first|apply bN|apply bD|apply bA);refine blk_far ?_ NB242_249.out _;(with_reducible repeat first|apply bN|apply bD|apply bA);exact BK242.out) hb);have n7_ := Aside0.mk (blk_below (g := gb249) (o := .cells #[.int .i64 t247, .int .i64 t248] 27 (0, 0)) (by (with_reducible repeat first|apply bN|apply bD|apply bA);refine blk_put (cs := #[.int .i64 t247, .int .i64 0]) ?_ 1 _ rfl;(with_reducible repeat first|apply bN|apply bD|apply bA);refine blk_put (cs := #[.int .i64 0, .int .i64 0]) ?_ 0 _ rfl;(with_reducible repeat first|apply bN|apply bD|apply bA);exact BK249.out) hb);have n8_ := Aside0.mk (below_step (by repeat (first|(with_reducible first|exact HB.out|apply eA|apply eN|apply eD|refine below_set ?_ GE229.out|refine below_set ?_ GE235.out|refine below_set ?_ GE241.out|refine below_set ?_ GE242.out|refine below_set ?_ GE249.out)|exact HB.out)) hb);clear HO_5;clear HO_242000;clear HO246;clear BK229;clear BK235;clear BK241;clear BK242;clear BK249;clear HB;have HO_5 := n0_;have HO_242000 := n1_;have HO246 := n2_;have BK229 := n3_;have BK235 := n4_;have BK241 := n5_;have BK242 := n6_;have BK249 := n7_;have HB := n8_;clear n0_ n1_ n2_ n3_ n4_ n5_ n6_ n7_ n8_;(try clear hb);(try clear hb2);(try clear hk);(try clear hi)))
            go_ret
            exact ⟨by first|rfl|(simp [errW_none, errW_some] <;> rfl)|(simp [*, errW_none, errW_some] <;> rfl), by repeat (first|(with_reducible first|exact HB.out|apply eA|apply eN|apply eD|refine below_set ?_ GE229.out|refine below_set ?_ GE235.out|refine below_set ?_ GE241.out|refine below_set ?_ GE242.out|refine below_set ?_ GE249.out)|exact HB.out)⟩
          · replace c42 := Bool.eq_false_iff.mpr c42
            subst c42
            have H1 : (some false) = some r := by rw [if_neg (show ¬ (false = true) by decide)] at H;exact H
            clear H
            have H := H1
            clear H1
            obtain rfl := Option.some.inj H
            exact absurd hrt (by decide)
        · rw [if_neg c40] at H
          have c40b0 : (t247 == 0) = false := beq_eq_false_iff_ne.mpr c40
          have c40b1 : (t247 != 0) = true := bne_iff_ne.mpr c40
          obtain rfl := Option.some.inj H
          exact absurd hrt (by decide)
/-- THE ONE PURE STATEMENT of changeforgelaw1_TextpatchUndo: yours. -/
def changeforgelaw1_TextpatchUndo.Pure : Prop := ∀ (l0_0 : List (S47)) (l1 : List ByteArray), l0_0.length ≤ maxLen → (∀ x ∈ l0_0, ((Lit.int .i64 x.f0).wf = true) ∧ ((x.f1.length ≤ maxLen ∧ ∀ yxf1 ∈ x.f1, yxf1.size ≤ maxLen) ∧ ((x.f2.length ≤ maxLen ∧ ∀ yxf2 ∈ x.f2, yxf2.size ≤ maxLen)))) → l1.length ≤ maxLen → l1.length * 16 ≤ 140737488351232 → (∀ x ∈ l1, x.size ≤ maxLen) → ∃ k, changeforgelaw1_TextpatchUndo.f k l0_0 l1 = some true
theorem changeforgelaw1_TextpatchUndo.walk (P : changeforgelaw1_TextpatchUndo.Pure) (A0_0 : Option Addr) (c0_0 : Nat) (l0_0 : List (S47)) (A1 : Option Addr) (c1 : Nat) (l1 : List ByteArray) (w : World) (hr0_0 : Kd.C k47 w A0_0 l0_0.length l0_0) (hc0_0 : l0_0.length ≤ c0_0) (hm0_0 : l0_0.length ≤ maxLen) (he0_0 : ∀ x ∈ l0_0, ((Lit.int .i64 x.f0).wf = true) ∧ ((x.f1.length ≤ maxLen ∧ ∀ yxf1 ∈ x.f1, yxf1.size ≤ maxLen) ∧ ((x.f2.length ≤ maxLen ∧ ∀ yxf2 ∈ x.f2, yxf2.size ≤ maxLen)))) (hr1 : Kd.C Kd.string w A1 l1.length l1) (hc1 : l1.length ≤ c1) (hm1 : l1.length ≤ maxLen) (hs1 : l1.length * 16 ≤ 140737488351232) (he1 : ∀ x ∈ l1, x.size ≤ maxLen) :
    Calls Try.prog 4 #[.agg #[.slice A0_0 l0_0.length c0_0], .slice A1 l1.length c1] w fun e w' => e = .returned (.bool true) ∧ Below w.heap.size w w' := by
  obtain ⟨k, h⟩ := P l0_0 l1 hm0_0 he0_0 hm1 hs1 he1
  refine (changeforgelaw1_TextpatchUndo.calls k _ _ l0_0 _ _ l1 true w hr0_0 hc0_0 hr1 hc1 h rfl).mono ?_
  rintro e w' ⟨rfl, hd⟩
  exact ⟨rfl, hd⟩

end Go.Proofs.Ytdnnkhogpobjbaa.PV
