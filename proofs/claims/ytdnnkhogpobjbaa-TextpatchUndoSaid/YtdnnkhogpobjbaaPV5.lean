/- Printed by a program of this session out of the translation: Lean functions for Go functions, and proofs that the Go functions answer the same. -/
import Derived.Test.YtdnnkhogpobjbaaPV0
import Derived.Test.YtdnnkhogpobjbaaPV1
import Derived.Test.YtdnnkhogpobjbaaPV3
namespace Go.Proofs.Ytdnnkhogpobjbaa.PV
open Go.RowKit Go.Proofs.Ytdnnkhogpobjbaa.Pre Go.Proofs.YtdnnkhogpobjbaaW.PrintWords Go.Proofs.YtdnnkhogpobjbaaW.PrintLast Go.Proofs.YtdnnkhogpobjbaaW.PrintMore
attribute [local go_sem] max2_int min2_int max_two min_two max_three min_three max_four min_four   -- for this text's walks alone
set_option linter.unusedVariables false
set_option linter.unusedSimpArgs false

attribute [local go_sem high] eqA27
/-! ### slices_Clone_string_string: function 39 -/
def slices_Clone_string_string.f (l0 : List ByteArray) : Option (List ByteArray) :=  if l0.length ≤ 8796093022208 then some l0 else none
theorem slices_Clone_string_string.calls (A0 : Option Addr) (c0 : Nat) (l0 : List ByteArray) (r : List ByteArray) (w : World) (hr0 : Kd.C Kd.string w A0 l0.length l0) (hc0 : l0.length ≤ c0) (h : slices_Clone_string_string.f l0 = some r) :
    Calls Try.prog 39 #[.slice A0 l0.length c0] w fun e w' => ∃ v0_ : Value, e = .returned (v0_) ∧ Kd.R Kd.string 9 w' w.heap.size (fun _ => True) v0_ r ∧ Below w.heap.size w w' := by
  replace h : (if l0.length ≤ 8796093022208 then some l0 else none) = some r := h
  by_cases hb : l0.length ≤ 8796093022208
  · rw [if_pos hb] at h
    obtain rfl := Option.some.inj h
    cases A0 with
    | none =>
      have hl : l0 = [] := by
        have := (Kd.reads_of_C (enc := Value.string) (d := ByteArray.empty) (h1 := fun _ => rfl) hr0).2.2
        cases l0 with
        | nil => rfl
        | cons a r => obtain ⟨ad, e, _⟩ := this (by simp); cases e
      subst hl
      refine (Try.slices_Clone_string_nil 0 c0 w).mono fun e w' ⟨he, hw⟩ => ⟨_, he, Kd.R_nil _ _ _ _ _, by rw [hw]; exact Below.refl _ _⟩
    | some a =>
      by_cases h0 : l0.length = 0
      · have hl : l0 = [] := List.eq_nil_of_length_eq_zero h0
        subst hl
        refine (Try.slices_Clone_string_zero a c0 w).mono fun e w' ⟨v', he, ho, _, hbel⟩ => ⟨v', he, Kd.R_of_own (enc := Value.string) (h1 := fun _ => rfl) (xs := []) ho (fun _ _ => trivial), hbel⟩
      · obtain ⟨ad, e, hc⟩ := (Kd.reads_of_C (enc := Value.string) (d := ByteArray.empty) (h1 := fun _ => rfl) hr0).2.2 (by omega)
        obtain rfl := Option.some.inj e
        obtain ⟨b, off, f⟩ := a
        obtain rfl : f = none := by
          have := hc 0 (by omega)
          cases f with
          | none => rfl
          | some s =>
            unfold Addr.add World.cell? at this
            rw [if_pos rfl] at this
            simp at this
            split at this <;> simp at this
        refine (Try.slices_Clone_string b off l0.length c0 l0 w (Nat.le_refl _) (by omega) ?_).mono fun e w' ⟨v', he, ho, _, hbel⟩ => ⟨v', he, Kd.R_of_own (enc := Value.string) (h1 := fun _ => rfl) (xs := l0) (by rw [List.take_length] at ho; exact ho) (fun _ _ => trivial), hbel⟩
        intro j hj
        have := hc j hj
        have e : (⟨b, off, none⟩ : Addr).add j = ⟨b, off + j, none⟩ := by unfold Addr.add; split <;> simp_all
        rw [e] at this
        exact this
  · rw [if_neg hb] at h; cases h


/-! ### textpatch_Fit: function 40 -/
def textpatch_Fit.f (l0_0 : List (S47)) : Option ((List (S47)) × Int × Int) := (textpatch_Validate.f l0_0).bind fun bt148 => (if (!(bt148.1 == 0) || (!(bt148.2 == 0))) = true then (some (([] : List (S47)), 10, (-1))) else (some (l0_0, 0, 0)))
set_option maxHeartbeats 8000000 in
set_option maxRecDepth 100000 in
theorem textpatch_Fit.calls (P0_0_ : Nat → Prop) (A0_0 : Option Addr) (c0_0 : Nat) (l0_0 : List (S47)) (r1 : List (S47)) (r2 : Int) (r3 : Int) (w : World) (hs0_0 : Kd.V k47 47 w w.heap.size (fun k_ => P0_0_ k_) (.slice A0_0 l0_0.length c0_0) l0_0) (h : textpatch_Fit.f l0_0 = some (r1, r2, r3)) :
    Calls Try.prog 40 #[.agg #[.slice A0_0 l0_0.length c0_0]] w fun e w' => ∃ v0_ : Value, e = .returned (.tuple #[.agg #[v0_], .agg #[.int .i64 r2, .int .i64 r3]]) ∧ Kd.V k47 47 w' w.heap.size (fun k_ => (P0_0_ k_ ∨ w.heap.size ≤ k_)) v0_ r1 ∧ Below w.heap.size w w' := by
  have hu24 := Try.underlying24
  have hu27 := Try.underlying27
  have HO0_0 := Aside0.mk (show Kd.V k47 47 w w.heap.size (fun k_ => (P0_0_ k_ ∨ w.heap.size ≤ k_)) (.slice A0_0 l0_0.length c0_0) l0_0 from Kd.V_mono hs0_0 (fun k_ hk => .inl hk))
  have HB := Aside0.mk (Below.refl w.heap.size w)
  have H : ((textpatch_Validate.f l0_0).bind fun bt148 => (if (!(bt148.1 == 0) || (!(bt148.2 == 0))) = true then (some (([] : List (S47)), 10, (-1))) else (some (l0_0, 0, 0)))) = some (r1, r2, r3) := h
  clear h
  replace H := Option.bind_eq_some_iff.mp H
  obtain ⟨⟨t148, t149⟩, A20, H⟩ := H
  replace H : (if (!(t148 == 0) || (!(t149 == 0))) = true then (some (([] : List (S47)), 10, (-1))) else (some (l0_0, 0, 0))) = some (r1, r2, r3) := H
  have A2 := Aside0.mk A20
  clear A20
  by_cases c3 : (!(t148 == 0) || (!(t149 == 0))) = true
  · rw [if_pos c3] at H
    have c3b0 : (!(t148 == 0) || (!(t149 == 0))) = true := c3
    clear c3
    simp only [Option.some.injEq, Prod.mk.injEq] at H
    obtain ⟨rfl, rfl, rfl⟩ := H
    go_enter Try.func40, Try.ntmps40
    go_wp2_with (first|((with_reducible refine gate_dst (N := 1) rfl ?_);refine box_event ?hg (N := 1) ?hd (cs := #[.slice A0_0 l0_0.length c0_0]) (t := 24) ?hr ?_;(case hd => rfl);(case hg => rfl);(case hr => first|(go_simp;done)|(go_simp;rfl));intro gb145 hg w4 hbox hb;have n0_ := Aside0.mk (Kd.V_below (Kd.V_elderB (by (with_reducible repeat (first|apply Kd.V_alloc|apply Kd.V_drewN|apply Kd.V_drew));exact HO0_0.out) gb145 (Nat.le_of_eq hg.symm)) hb);have n1_ := Aside0.mk (below_step (by repeat (first|(with_reducible first|exact HB.out|apply eA|apply eN|apply eD)|exact HB.out)) hb);have n2_ := Aside0.mk (hbox);have n3_ := Aside0.mk ((by rw [hg];exact (below_size (by repeat (first|(with_reducible first|exact HB.out|apply eA|apply eN|apply eD)|exact HB.out))) : w.heap.size ≤ gb145));have n4_ := Aside0.mk ((by rw [hg];exact (below_size (by repeat (first|(with_reducible first|exact HB.out|apply eA|apply eN|apply eD)|exact HB.out))) : w.heap.size ≤ gb145));clear HO0_0;clear HB;have HO0_0 := n0_;have HB := n1_;have BK145 := n2_;have GW145 := n3_;have GE145 := n4_;clear n0_ n1_ n2_ n3_ n4_;clear hb hbox hg)|((with_reducible refine gate_dst (N := 2) rfl ?_);refine box_event ?hg (N := 2) ?hd (cs := #[.slice none 0 0]) (t := 24) ?hr ?_;(case hd => rfl);(case hg => rfl);(case hr => first|(go_simp;done)|(go_simp;rfl));intro gb146 hg w5 hbox hb;have n0_ := Aside0.mk (Kd.V_below (Kd.V_elderB (by (with_reducible repeat (first|apply Kd.V_alloc|apply Kd.V_drewN|apply Kd.V_drew));exact HO0_0.out) gb146 (Nat.le_of_eq hg.symm)) hb);have n1_ := Aside0.mk (blk_below (g := gb145) (o := .cells #[.slice A0_0 l0_0.length c0_0] 24 (0, 0)) (by (with_reducible repeat first|apply bN|apply bD|apply bA);exact BK145.out) hb);have n2_ := Aside0.mk (below_step (by repeat (first|(with_reducible first|exact HB.out|apply eA|apply eN|apply eD|refine below_set ?_ GE145.out)|exact HB.out)) hb);have n3_ := Aside0.mk (hbox);have n4_ := Aside0.mk ((by rw [hg];exact (below_size (by repeat (first|(with_reducible first|exact HB.out|apply eA|apply eN|apply eD|refine below_set ?_ GE145.out)|exact HB.out))) : w.heap.size ≤ gb146));have n5_ := Aside0.mk ((by rw [hg];exact (below_size (by repeat (first|(with_reducible first|exact HB.out|apply eA|apply eN|apply eD|refine below_set ?_ GE145.out)|exact HB.out))) : w.heap.size ≤ gb146));have n6_ := Aside0.mk ((by rw [hg];exact Nat.ne_of_lt (blk_lt (g := gb145) (o := .cells #[.slice A0_0 l0_0.length c0_0] 24 (0, 0)) (by (with_reducible repeat first|apply bN|apply bD|apply bA);exact BK145.out)) : gb145 ≠ gb146));have n7_ := Aside0.mk ((by rw [hg];exact Nat.ne_of_gt (blk_lt (g := gb145) (o := .cells #[.slice A0_0 l0_0.length c0_0] 24 (0, 0)) (by (with_reducible repeat first|apply bN|apply bD|apply bA);exact BK145.out)) : gb146 ≠ gb145));clear HO0_0;clear BK145;clear HB;have HO0_0 := n0_;have BK145 := n1_;have HB := n2_;have BK146 := n3_;have GW146 := n4_;have GE146 := n5_;have NB145_146 := n6_;have NB146_145 := n7_;clear n0_ n1_ n2_ n3_ n4_ n5_ n6_ n7_;clear hb hbox hg)|((with_reducible refine gate_dst (N := 3) rfl ?_);refine box_event ?hg (N := 3) ?hd (cs := #[.int .i64 0, .int .i64 0]) (t := 27) ?hr ?_;(case hd => rfl);(case hg => rfl);(case hr => first|(go_simp;done)|(go_simp;rfl));intro gb147 hg w6 hbox hb;have n0_ := Aside0.mk (Kd.V_below (Kd.V_elderB (by (with_reducible repeat (first|apply Kd.V_alloc|apply Kd.V_drewN|apply Kd.V_drew));exact HO0_0.out) gb147 (Nat.le_of_eq hg.symm)) hb);have n1_ := Aside0.mk (blk_below (g := gb145) (o := .cells #[.slice A0_0 l0_0.length c0_0] 24 (0, 0)) (by (with_reducible repeat first|apply bN|apply bD|apply bA);exact BK145.out) hb);have n2_ := Aside0.mk (blk_below (g := gb146) (o := .cells #[.slice none 0 0] 24 (0, 0)) (by (with_reducible repeat first|apply bN|apply bD|apply bA);exact BK146.out) hb);have n3_ := Aside0.mk (below_step (by repeat (first|(with_reducible first|exact HB.out|apply eA|apply eN|apply eD|refine below_set ?_ GE145.out|refine below_set ?_ GE146.out)|exact HB.out)) hb);have n4_ := Aside0.mk (hbox);have n5_ := Aside0.mk ((by rw [hg];exact (below_size (by repeat (first|(with_reducible first|exact HB.out|apply eA|apply eN|apply eD|refine below_set ?_ GE145.out|refine below_set ?_ GE146.out)|exact HB.out))) : w.heap.size ≤ gb147));have n6_ := Aside0.mk ((by rw [hg];exact (below_size (by repeat (first|(with_reducible first|exact HB.out|apply eA|apply eN|apply eD|refine below_set ?_ GE145.out|refine below_set ?_ GE146.out)|exact HB.out))) : w.heap.size ≤ gb147));have n7_ := Aside0.mk ((by rw [hg];exact Nat.ne_of_lt (blk_lt (g := gb145) (o := .cells #[.slice A0_0 l0_0.length c0_0] 24 (0, 0)) (by (with_reducible repeat first|apply bN|apply bD|apply bA);exact BK145.out)) : gb145 ≠ gb147));have n8_ := Aside0.mk ((by rw [hg];exact Nat.ne_of_gt (blk_lt (g := gb145) (o := .cells #[.slice A0_0 l0_0.length c0_0] 24 (0, 0)) (by (with_reducible repeat first|apply bN|apply bD|apply bA);exact BK145.out)) : gb147 ≠ gb145));have n9_ := Aside0.mk ((by rw [hg];exact Nat.ne_of_lt (blk_lt (g := gb146) (o := .cells #[.slice none 0 0] 24 (0, 0)) (by (with_reducible repeat first|apply bN|apply bD|apply bA);exact BK146.out)) : gb146 ≠ gb147));have n10_ := Aside0.mk ((by rw [hg];exact Nat.ne_of_gt (blk_lt (g := gb146) (o := .cells #[.slice none 0 0] 24 (0, 0)) (by (with_reducible repeat first|apply bN|apply bD|apply bA);exact BK146.out)) : gb147 ≠ gb146));clear HO0_0;clear BK145;clear BK146;clear HB;have HO0_0 := n0_;have BK145 := n1_;have BK146 := n2_;have HB := n3_;have BK147 := n4_;have GW147 := n5_;have GE147 := n6_;have NB145_147 := n7_;have NB147_145 := n8_;have NB146_147 := n9_;have NB147_146 := n10_;clear n0_ n1_ n2_ n3_ n4_ n5_ n6_ n7_ n8_ n9_ n10_;clear hb hbox hg;have hnb7 := NB145_146.out;have hnc7 := NB146_145.out;have hnb8 := NB145_147.out;have hnc8 := NB147_145.out;have hcz9_0 : w6.cell? ⟨gb145, 0, none⟩ = some (.slice A0_0 l0_0.length c0_0) := (blk_cell BK145.out 0).trans rfl;have hfz9_0 := blk_frozen BK145.out 0)|((with_reducible refine gate_callee (f := 19) rfl ?_);refine goesL_ (some 5) rfl rfl Try.func19 (by kernel_rfl) rfl #[.agg #[.slice A0_0 l0_0.length c0_0]] rfl (by (try simp only [List.map_toArray, List.map_cons, List.map_nil]);first|done|rfl|(simp only [List.length_drop, List.length_take];rfl)) ?_;(with_reducible refine (textpatch_Validate.calls _ _ l0_0 t148 t149 _ ?side1 ?side2 A2.out).mono ?_);(case side1 => repeat (first|exact (Kd.V_reads' HO0_0.out).2.2|(with_reducible refine Kd.C_alloc ?_ _)|(with_reducible refine Kd.C_drewN ?_ _)|(with_reducible refine Kd.C_drew ?_)));(case side2 => exact (Kd.V_reads' HO0_0.out).2.1);rintro e w10 ⟨rfl, hb⟩;refine ⟨_, rfl, ?_⟩;have n0_ := Aside0.mk (Kd.V_below (by (with_reducible repeat (first|apply Kd.V_alloc|apply Kd.V_drewN|apply Kd.V_drew));exact HO0_0.out) hb);have n1_ := Aside0.mk (blk_below (g := gb145) (o := .cells #[.slice A0_0 l0_0.length c0_0] 24 (0, 0)) (by (with_reducible repeat first|apply bN|apply bD|apply bA);exact BK145.out) hb);have n2_ := Aside0.mk (blk_below (g := gb146) (o := .cells #[.slice none 0 0] 24 (0, 0)) (by (with_reducible repeat first|apply bN|apply bD|apply bA);exact BK146.out) hb);have n3_ := Aside0.mk (blk_below (g := gb147) (o := .cells #[.int .i64 0, .int .i64 0] 27 (0, 0)) (by (with_reducible repeat first|apply bN|apply bD|apply bA);exact BK147.out) hb);have n4_ := Aside0.mk (below_step (by repeat (first|(with_reducible first|exact HB.out|apply eA|apply eN|apply eD|refine below_set ?_ GE145.out|refine below_set ?_ GE146.out|refine below_set ?_ GE147.out)|exact HB.out)) hb);clear HO0_0;clear BK145;clear BK146;clear BK147;clear HB;have HO0_0 := n0_;have BK145 := n1_;have BK146 := n2_;have BK147 := n3_;have HB := n4_;clear n0_ n1_ n2_ n3_ n4_;(try clear hb);(try clear hb2);(try clear hk);(try clear hi);have hnb11 := NB146_147.out;have hnc11 := NB147_146.out;have hcz12_0 : w10.cell? ⟨gb146, 0, none⟩ = some (.slice none 0 0) := (blk_cell BK146.out 0).trans rfl;have hfz12_0 := blk_frozen BK146.out 0;have hcz13_0 : w10.cell? ⟨gb147, 0, none⟩ = some (.int .i64 0) := (blk_cell BK147.out 0).trans rfl;have hcz13_1 : w10.cell? ⟨gb147, 1, none⟩ = some (.int .i64 0) := (blk_cell BK147.out 1).trans rfl;have hfz13_0 := blk_frozen BK147.out 0;have hfz13_1 := blk_frozen BK147.out 1))
    refine bodyPost_ret (results_cc rfl _ _ gb146 gb147 24 27 #[.slice none 0 0] #[.int .i64 10, .int .i64 (-1)] (0, 0) (0, 0) _ _ rfl (by (with_reducible repeat first|apply bN|apply bD|apply bA);refine blk_far ?_ NB146_147.out _;(with_reducible repeat first|apply bN|apply bD|apply bA);refine blk_far ?_ NB146_147.out _;(with_reducible repeat first|apply bN|apply bD|apply bA);refine blk_put (cs := #[.slice none 0 0]) ?_ 0 _ rfl;(with_reducible repeat first|apply bN|apply bD|apply bA);exact BK146.out) Try.underlying24 rfl (by kernel_rfl) rfl (by (with_reducible repeat first|apply bN|apply bD|apply bA);refine blk_put (cs := #[.int .i64 10, .int .i64 0]) ?_ 1 _ rfl;(with_reducible repeat first|apply bN|apply bD|apply bA);refine blk_put (cs := #[.int .i64 0, .int .i64 0]) ?_ 0 _ rfl;(with_reducible repeat first|apply bN|apply bD|apply bA);refine blk_far ?_ NB147_146.out _;(with_reducible repeat first|apply bN|apply bD|apply bA);exact BK147.out) Try.underlying27 rfl (by kernel_rfl)) rfl ?_
    exact ⟨_, by first|rfl|(simp [errW_none, errW_some] <;> rfl)|(simp [*, errW_none, errW_some] <;> rfl), Kd.V_mono (Kd.S_V (Kd.S_nil _ _ _ 0 _)) (fun k_ hk => by first|exact ⟨(.inr (hk.1)), hk.2⟩|exact (.inr (hk))), by repeat (first|(with_reducible first|exact HB.out|apply eA|apply eN|apply eD|refine below_set ?_ GE145.out|refine below_set ?_ GE146.out|refine below_set ?_ GE147.out)|exact HB.out)⟩
  · rw [if_neg c3] at H
    have c3b0 : (!(t148 == 0) || (!(t149 == 0))) = false := by simpa using c3
    clear c3
    simp only [Option.some.injEq, Prod.mk.injEq] at H
    obtain ⟨rfl, rfl, rfl⟩ := H
    go_enter Try.func40, Try.ntmps40
    go_wp2_with (first|((with_reducible refine gate_dst (N := 1) rfl ?_);refine box_event ?hg (N := 1) ?hd (cs := #[.slice A0_0 l0_0.length c0_0]) (t := 24) ?hr ?_;(case hd => rfl);(case hg => rfl);(case hr => first|(go_simp;done)|(go_simp;rfl));intro gb145 hg w14 hbox hb;have n0_ := Aside0.mk (Kd.V_below (Kd.V_elderB (by (with_reducible repeat (first|apply Kd.V_alloc|apply Kd.V_drewN|apply Kd.V_drew));exact HO0_0.out) gb145 (Nat.le_of_eq hg.symm)) hb);have n1_ := Aside0.mk (below_step (by repeat (first|(with_reducible first|exact HB.out|apply eA|apply eN|apply eD)|exact HB.out)) hb);have n2_ := Aside0.mk (hbox);have n3_ := Aside0.mk ((by rw [hg];exact (below_size (by repeat (first|(with_reducible first|exact HB.out|apply eA|apply eN|apply eD)|exact HB.out))) : w.heap.size ≤ gb145));have n4_ := Aside0.mk ((by rw [hg];exact (below_size (by repeat (first|(with_reducible first|exact HB.out|apply eA|apply eN|apply eD)|exact HB.out))) : w.heap.size ≤ gb145));clear HO0_0;clear HB;have HO0_0 := n0_;have HB := n1_;have BK145 := n2_;have GW145 := n3_;have GE145 := n4_;clear n0_ n1_ n2_ n3_ n4_;clear hb hbox hg)|((with_reducible refine gate_dst (N := 2) rfl ?_);refine box_event ?hg (N := 2) ?hd (cs := #[.slice none 0 0]) (t := 24) ?hr ?_;(case hd => rfl);(case hg => rfl);(case hr => first|(go_simp;done)|(go_simp;rfl));intro gb146 hg w15 hbox hb;have n0_ := Aside0.mk (Kd.V_below (Kd.V_elderB (by (with_reducible repeat (first|apply Kd.V_alloc|apply Kd.V_drewN|apply Kd.V_drew));exact HO0_0.out) gb146 (Nat.le_of_eq hg.symm)) hb);have n1_ := Aside0.mk (blk_below (g := gb145) (o := .cells #[.slice A0_0 l0_0.length c0_0] 24 (0, 0)) (by (with_reducible repeat first|apply bN|apply bD|apply bA);exact BK145.out) hb);have n2_ := Aside0.mk (below_step (by repeat (first|(with_reducible first|exact HB.out|apply eA|apply eN|apply eD|refine below_set ?_ GE145.out)|exact HB.out)) hb);have n3_ := Aside0.mk (hbox);have n4_ := Aside0.mk ((by rw [hg];exact (below_size (by repeat (first|(with_reducible first|exact HB.out|apply eA|apply eN|apply eD|refine below_set ?_ GE145.out)|exact HB.out))) : w.heap.size ≤ gb146));have n5_ := Aside0.mk ((by rw [hg];exact (below_size (by repeat (first|(with_reducible first|exact HB.out|apply eA|apply eN|apply eD|refine below_set ?_ GE145.out)|exact HB.out))) : w.heap.size ≤ gb146));have n6_ := Aside0.mk ((by rw [hg];exact Nat.ne_of_lt (blk_lt (g := gb145) (o := .cells #[.slice A0_0 l0_0.length c0_0] 24 (0, 0)) (by (with_reducible repeat first|apply bN|apply bD|apply bA);exact BK145.out)) : gb145 ≠ gb146));have n7_ := Aside0.mk ((by rw [hg];exact Nat.ne_of_gt (blk_lt (g := gb145) (o := .cells #[.slice A0_0 l0_0.length c0_0] 24 (0, 0)) (by (with_reducible repeat first|apply bN|apply bD|apply bA);exact BK145.out)) : gb146 ≠ gb145));clear HO0_0;clear BK145;clear HB;have HO0_0 := n0_;have BK145 := n1_;have HB := n2_;have BK146 := n3_;have GW146 := n4_;have GE146 := n5_;have NB145_146 := n6_;have NB146_145 := n7_;clear n0_ n1_ n2_ n3_ n4_ n5_ n6_ n7_;clear hb hbox hg)|((with_reducible refine gate_dst (N := 3) rfl ?_);refine box_event ?hg (N := 3) ?hd (cs := #[.int .i64 0, .int .i64 0]) (t := 27) ?hr ?_;(case hd => rfl);(case hg => rfl);(case hr => first|(go_simp;done)|(go_simp;rfl));intro gb147 hg w16 hbox hb;have n0_ := Aside0.mk (Kd.V_below (Kd.V_elderB (by (with_reducible repeat (first|apply Kd.V_alloc|apply Kd.V_drewN|apply Kd.V_drew));exact HO0_0.out) gb147 (Nat.le_of_eq hg.symm)) hb);have n1_ := Aside0.mk (blk_below (g := gb145) (o := .cells #[.slice A0_0 l0_0.length c0_0] 24 (0, 0)) (by (with_reducible repeat first|apply bN|apply bD|apply bA);exact BK145.out) hb);have n2_ := Aside0.mk (blk_below (g := gb146) (o := .cells #[.slice none 0 0] 24 (0, 0)) (by (with_reducible repeat first|apply bN|apply bD|apply bA);exact BK146.out) hb);have n3_ := Aside0.mk (below_step (by repeat (first|(with_reducible first|exact HB.out|apply eA|apply eN|apply eD|refine below_set ?_ GE145.out|refine below_set ?_ GE146.out)|exact HB.out)) hb);have n4_ := Aside0.mk (hbox);have n5_ := Aside0.mk ((by rw [hg];exact (below_size (by repeat (first|(with_reducible first|exact HB.out|apply eA|apply eN|apply eD|refine below_set ?_ GE145.out|refine below_set ?_ GE146.out)|exact HB.out))) : w.heap.size ≤ gb147));have n6_ := Aside0.mk ((by rw [hg];exact (below_size (by repeat (first|(with_reducible first|exact HB.out|apply eA|apply eN|apply eD|refine below_set ?_ GE145.out|refine below_set ?_ GE146.out)|exact HB.out))) : w.heap.size ≤ gb147));have n7_ := Aside0.mk ((by rw [hg];exact Nat.ne_of_lt (blk_lt (g := gb145) (o := .cells #[.slice A0_0 l0_0.length c0_0] 24 (0, 0)) (by (with_reducible repeat first|apply bN|apply bD|apply bA);exact BK145.out)) : gb145 ≠ gb147));have n8_ := Aside0.mk ((by rw [hg];exact Nat.ne_of_gt (blk_lt (g := gb145) (o := .cells #[.slice A0_0 l0_0.length c0_0] 24 (0, 0)) (by (with_reducible repeat first|apply bN|apply bD|apply bA);exact BK145.out)) : gb147 ≠ gb145));have n9_ := Aside0.mk ((by rw [hg];exact Nat.ne_of_lt (blk_lt (g := gb146) (o := .cells #[.slice none 0 0] 24 (0, 0)) (by (with_reducible repeat first|apply bN|apply bD|apply bA);exact BK146.out)) : gb146 ≠ gb147));have n10_ := Aside0.mk ((by rw [hg];exact Nat.ne_of_gt (blk_lt (g := gb146) (o := .cells #[.slice none 0 0] 24 (0, 0)) (by (with_reducible repeat first|apply bN|apply bD|apply bA);exact BK146.out)) : gb147 ≠ gb146));clear HO0_0;clear BK145;clear BK146;clear HB;have HO0_0 := n0_;have BK145 := n1_;have BK146 := n2_;have HB := n3_;have BK147 := n4_;have GW147 := n5_;have GE147 := n6_;have NB145_147 := n7_;have NB147_145 := n8_;have NB146_147 := n9_;have NB147_146 := n10_;clear n0_ n1_ n2_ n3_ n4_ n5_ n6_ n7_ n8_ n9_ n10_;clear hb hbox hg;have hnb17 := NB145_146.out;have hnc17 := NB146_145.out;have hnb18 := NB145_147.out;have hnc18 := NB147_145.out;have hcz19_0 : w16.cell? ⟨gb145, 0, none⟩ = some (.slice A0_0 l0_0.length c0_0) := (blk_cell BK145.out 0).trans rfl;have hfz19_0 := blk_frozen BK145.out 0)|((with_reducible refine gate_callee (f := 19) rfl ?_);refine goesL_ (some 5) rfl rfl Try.func19 (by kernel_rfl) rfl #[.agg #[.slice A0_0 l0_0.length c0_0]] rfl (by (try simp only [List.map_toArray, List.map_cons, List.map_nil]);first|done|rfl|(simp only [List.length_drop, List.length_take];rfl)) ?_;(with_reducible refine (textpatch_Validate.calls _ _ l0_0 t148 t149 _ ?side1 ?side2 A2.out).mono ?_);(case side1 => repeat (first|exact (Kd.V_reads' HO0_0.out).2.2|(with_reducible refine Kd.C_alloc ?_ _)|(with_reducible refine Kd.C_drewN ?_ _)|(with_reducible refine Kd.C_drew ?_)));(case side2 => exact (Kd.V_reads' HO0_0.out).2.1);rintro e w20 ⟨rfl, hb⟩;refine ⟨_, rfl, ?_⟩;have n0_ := Aside0.mk (Kd.V_below (by (with_reducible repeat (first|apply Kd.V_alloc|apply Kd.V_drewN|apply Kd.V_drew));exact HO0_0.out) hb);have n1_ := Aside0.mk (blk_below (g := gb145) (o := .cells #[.slice A0_0 l0_0.length c0_0] 24 (0, 0)) (by (with_reducible repeat first|apply bN|apply bD|apply bA);exact BK145.out) hb);have n2_ := Aside0.mk (blk_below (g := gb146) (o := .cells #[.slice none 0 0] 24 (0, 0)) (by (with_reducible repeat first|apply bN|apply bD|apply bA);exact BK146.out) hb);have n3_ := Aside0.mk (blk_below (g := gb147) (o := .cells #[.int .i64 0, .int .i64 0] 27 (0, 0)) (by (with_reducible repeat first|apply bN|apply bD|apply bA);exact BK147.out) hb);have n4_ := Aside0.mk (below_step (by repeat (first|(with_reducible first|exact HB.out|apply eA|apply eN|apply eD|refine below_set ?_ GE145.out|refine below_set ?_ GE146.out|refine below_set ?_ GE147.out)|exact HB.out)) hb);clear HO0_0;clear BK145;clear BK146;clear BK147;clear HB;have HO0_0 := n0_;have BK145 := n1_;have BK146 := n2_;have BK147 := n3_;have HB := n4_;clear n0_ n1_ n2_ n3_ n4_;(try clear hb);(try clear hb2);(try clear hk);(try clear hi);have hcz21_0 : w20.cell? ⟨gb145, 0, none⟩ = some (.slice A0_0 l0_0.length c0_0) := (blk_cell BK145.out 0).trans rfl;have hfz21_0 := blk_frozen BK145.out 0;have hnb22 := NB146_147.out;have hnc22 := NB147_146.out;have hcz23_0 : w20.cell? ⟨gb146, 0, none⟩ = some (.slice none 0 0) := (blk_cell BK146.out 0).trans rfl;have hfz23_0 := blk_frozen BK146.out 0;have hcz24_0 : w20.cell? ⟨gb147, 0, none⟩ = some (.int .i64 0) := (blk_cell BK147.out 0).trans rfl;have hcz24_1 : w20.cell? ⟨gb147, 1, none⟩ = some (.int .i64 0) := (blk_cell BK147.out 1).trans rfl;have hfz24_0 := blk_frozen BK147.out 0;have hfz24_1 := blk_frozen BK147.out 1))
    refine bodyPost_ret (results_cc rfl _ _ gb146 gb147 24 27 #[.slice A0_0 l0_0.length c0_0] #[.int .i64 0, .int .i64 0] (0, 0) (0, 0) _ _ rfl (by (with_reducible repeat first|apply bN|apply bD|apply bA);refine blk_far ?_ NB146_147.out _;(with_reducible repeat first|apply bN|apply bD|apply bA);refine blk_far ?_ NB146_147.out _;(with_reducible repeat first|apply bN|apply bD|apply bA);refine blk_put (cs := #[.slice none 0 0]) ?_ 0 _ rfl;(with_reducible repeat first|apply bN|apply bD|apply bA);exact BK146.out) Try.underlying24 rfl (by kernel_rfl) rfl (by (with_reducible repeat first|apply bN|apply bD|apply bA);refine blk_put (cs := #[.int .i64 0, .int .i64 0]) ?_ 1 _ rfl;(with_reducible repeat first|apply bN|apply bD|apply bA);refine blk_put (cs := #[.int .i64 0, .int .i64 0]) ?_ 0 _ rfl;(with_reducible repeat first|apply bN|apply bD|apply bA);refine blk_far ?_ NB147_146.out _;(with_reducible repeat first|apply bN|apply bD|apply bA);exact BK147.out) Try.underlying27 rfl (by kernel_rfl)) rfl ?_
    exact ⟨_, by first|rfl|(simp [errW_none, errW_some] <;> rfl)|(simp [*, errW_none, errW_some] <;> rfl), by (with_reducible repeat (first|apply Kd.V_alloc|apply Kd.V_drewN|apply Kd.V_drew));exact Kd.V_mono (Kd.V_far (p := ⟨gb147, 1, none⟩) (Kd.V_far (p := ⟨gb147, 0, none⟩) (Kd.V_far (p := ⟨gb146, 0, none⟩) (Kd.V_mono (Kd.V_mono HO0_0.out (fun k_ hk => (⟨hk, hk.1.2⟩ : _ ∧ k_ ≠ gb146))) (fun k_ hk => (⟨hk, hk.1.2⟩ : _ ∧ k_ ≠ gb147))) (fun _ hk => hk.1.2) (.slice A0_0 l0_0.length c0_0)) (fun _ hk => hk.2) (.int .i64 0)) (fun _ hk => hk.2) (.int .i64 0)) (fun _ hk => hk.1.1.1.1.1), by repeat (first|(with_reducible first|exact HB.out|apply eA|apply eN|apply eD|refine below_set ?_ GE145.out|refine below_set ?_ GE146.out|refine below_set ?_ GE147.out)|exact HB.out)⟩

/-! ### textpatch_Invert: function 17 -/
def textpatch_Invert.l0 : Nat → Int → List (S47) → Int → Int → List (S47) → Option ((List (S47)) × Int × Int)
  | 0, _, _, _, _, _ => none
  | k + 1, x6, x17, x18, x19, x157000 => if x19 < x18 then (if 0 ≤ x19 then (if x19 < (x17.length : Int) then ((slices_Clone_string_string.f ((rd_T47 x17 x19).f2)).bind fun t159 => ((slices_Clone_string_string.f ((rd_T47 x17 x19).f1)).bind fun t162 => (if x157000.length < 2513169434916 then (textpatch_Invert.l0 k (wrap64 (x6 + (wrap64 ((((rd_T47 x17 x19).f2).length : Int) - (((rd_T47 x17 x19).f1).length : Int))))) x17 x18 (wrap64 (x19 + 1)) (x157000 ++ [(⟨wrap64 (((rd_T47 x17 x19).f0) + x6), t159, t162⟩ : S47)])) else (none)))) else (none)) else (none)) else ((textpatch_Fit.f x157000).bind fun bt168 => (some (bt168.1, bt168.2.1, bt168.2.2)))
def textpatch_Invert.f (k : Nat) (l0_0 : List (S47)) : Option ((List (S47)) × Int × Int) := (textpatch_Validate.f l0_0).bind fun bt153 => (if (!(bt153.1 == 0) || (!(bt153.2 == 0))) = true then (some (([] : List (S47)), bt153.1, bt153.2)) else (textpatch_Invert.l0 k 0 l0_0 (l0_0.length : Int) 0 ([] : List (S47))))
theorem textpatch_Invert.mono_l : ∀ k, (∀ y0 y1 y2 y3 y4, LeO (textpatch_Invert.l0 k y0 y1 y2 y3 y4) (textpatch_Invert.l0 (k + 1) y0 y1 y2 y3 y4))
  | 0 => fun _ _ _ _ _ r h => by simp [textpatch_Invert.l0] at h
  | k + 1 => by
    have ih0 := textpatch_Invert.mono_l k
    · intro y0 y1 y2 y3 y4
      unfold textpatch_Invert.l0
      repeat' first
      | (with_reducible exact ih0 _ _ _ _ _)
      | (with_reducible exact LeO.refl _)
      | (with_reducible exact LeO.none _)
      | (with_reducible refine LeO.ite ?_ ?_)
      | (with_reducible refine LeO.bind ?_ (fun _ => ?_))
      | exact ih0 _ _ _ _ _
      | exact LeO.none _
      | refine LeO.ite ?_ ?_
      | refine LeO.bind ?_ (fun _ => ?_)
theorem textpatch_Invert.mono : ∀ a0 k, LeO (textpatch_Invert.f k a0) (textpatch_Invert.f (k + 1) a0) := by
  intro a0 k
  have ih0 := textpatch_Invert.mono_l k
  unfold textpatch_Invert.f
  repeat' first
      | (with_reducible exact ih0 _ _ _ _ _)
      | (with_reducible exact LeO.refl _)
      | (with_reducible exact LeO.none _)
      | (with_reducible refine LeO.ite ?_ ?_)
      | (with_reducible refine LeO.bind ?_ (fun _ => ?_))
      | exact ih0 _ _ _ _ _
      | exact LeO.none _
      | refine LeO.ite ?_ ?_
      | refine LeO.bind ?_ (fun _ => ?_)
def textpatch_Invert.T9 : Bool × List (List Nat × List Nat) := (true, [([], []), ([0], [0]), ([], []), ([2], [2]), ([], []), ([3, 4], [3, 4]), ([], []), ([6], [6]), ([7], [7]), ([], []), ([9], [9]), ([10, 8], [10]), ([5, 8, 11], [5, 8, 11]), ([12], [12]), ([1, 13, 11], [1, 13]), ([0, 1, 2, 3, 4, 5, 6, 7, 8, 9, 10, 11, 12, 13, 14], []), ([15, 14, 14, 0, 1, 2, 3, 4, 5, 6, 7, 8, 9, 10, 11, 12, 13, 14], [14, 15])])
def textpatch_Invert.B9 : List Nat := [0, 1, 0, 4, 0, 28, 0, 64, 192, 0, 512, 1984, 4092, 8188, 16383, 32767, 65535]
theorem textpatch_Invert.tab9 : rtab .any (opsOf Try.f17 9) = textpatch_Invert.T9 := by kernel_rfl
theorem textpatch_Invert.bits9 : waitsOk textpatch_Invert.T9.2 textpatch_Invert.B9 = true := by kernel_rfl
set_option maxHeartbeats 8000000 in
set_option maxRecDepth 100000 in
theorem textpatch_Invert.calls (k : Nat) (A0_0 : Option Addr) (c0_0 : Nat) (l0_0 : List (S47)) (r1 : List (S47)) (r2 : Int) (r3 : Int) (w : World) (hr0_0 : Kd.C k47 w A0_0 l0_0.length l0_0) (hc0_0 : l0_0.length ≤ c0_0) (h : textpatch_Invert.f k l0_0 = some (r1, r2, r3)) :
    Calls Try.prog 17 #[.agg #[.slice A0_0 l0_0.length c0_0]] w fun e w' => ∃ v0_ : Value, e = .returned (.tuple #[.agg #[v0_], .agg #[.int .i64 r2, .int .i64 r3]]) ∧ Kd.V k47 47 w' w.heap.size (fun k_ => (w.heap.size ≤ k_)) v0_ r1 ∧ Below w.heap.size w w' := by
  have hu24 := Try.underlying24
  have hu27 := Try.underlying27
  have hu47 := Try.underlying47
  have HR0_0 := Aside0.mk hr0_0
  have HC0_0 := Aside0.mk hc0_0
  clear hr0_0 hc0_0
  have HB := Aside0.mk (Below.refl w.heap.size w)
  have H : ((textpatch_Validate.f l0_0).bind fun bt153 => (if (!(bt153.1 == 0) || (!(bt153.2 == 0))) = true then (some (([] : List (S47)), bt153.1, bt153.2)) else (textpatch_Invert.l0 k 0 l0_0 (l0_0.length : Int) 0 ([] : List (S47))))) = some (r1, r2, r3) := h
  clear h
  replace H := Option.bind_eq_some_iff.mp H
  obtain ⟨⟨t153, t154⟩, A20, H⟩ := H
  replace H : (if (!(t153 == 0) || (!(t154 == 0))) = true then (some (([] : List (S47)), t153, t154)) else (textpatch_Invert.l0 k 0 l0_0 (l0_0.length : Int) 0 ([] : List (S47)))) = some (r1, r2, r3) := H
  have A2 := Aside0.mk A20
  clear A20
  by_cases c3 : (!(t153 == 0) || (!(t154 == 0))) = true
  · rw [if_pos c3] at H
    have c3b0 : (!(t153 == 0) || (!(t154 == 0))) = true := c3
    clear c3
    simp only [Option.some.injEq, Prod.mk.injEq] at H
    obtain ⟨rfl, rfl, rfl⟩ := H
    go_enter Try.func17, Try.ntmps17
    try go_wp2_with (first|((with_reducible refine gate_dst (N := 1) rfl ?_);refine box_event ?hg (N := 1) ?hd (cs := #[.slice A0_0 l0_0.length c0_0]) (t := 24) ?hr ?_;(case hd => rfl);(case hg => rfl);(case hr => first|(go_simp;done)|(go_simp;rfl));intro gb150 hg w4 hbox hb;have n0_ := Aside0.mk (below_step (by repeat (first|(with_reducible first|exact HB.out|apply eA|apply eN|apply eD)|exact HB.out)) hb);have n1_ := Aside0.mk (hbox);have n2_ := Aside0.mk ((by rw [hg];exact (below_size (by repeat (first|(with_reducible first|exact HB.out|apply eA|apply eN|apply eD)|exact HB.out))) : w.heap.size ≤ gb150));have n3_ := Aside0.mk ((by rw [hg];exact (below_size (by repeat (first|(with_reducible first|exact HB.out|apply eA|apply eN|apply eD)|exact HB.out))) : w.heap.size ≤ gb150));clear HB;have HB := n0_;have BK150 := n1_;have GW150 := n2_;have GE150 := n3_;clear n0_ n1_ n2_ n3_;clear hb hbox hg)|((with_reducible refine gate_dst (N := 2) rfl ?_);refine box_event ?hg (N := 2) ?hd (cs := #[.slice none 0 0]) (t := 24) ?hr ?_;(case hd => rfl);(case hg => rfl);(case hr => first|(go_simp;done)|(go_simp;rfl));intro gb151 hg w5 hbox hb;have n0_ := Aside0.mk (blk_below (g := gb150) (o := .cells #[.slice A0_0 l0_0.length c0_0] 24 (0, 0)) (by (with_reducible repeat first|apply bN|apply bD|apply bA);exact BK150.out) hb);have n1_ := Aside0.mk (below_step (by repeat (first|(with_reducible first|exact HB.out|apply eA|apply eN|apply eD|refine below_set ?_ GE150.out)|exact HB.out)) hb);have n2_ := Aside0.mk (hbox);have n3_ := Aside0.mk ((by rw [hg];exact (below_size (by repeat (first|(with_reducible first|exact HB.out|apply eA|apply eN|apply eD|refine below_set ?_ GE150.out)|exact HB.out))) : w.heap.size ≤ gb151));have n4_ := Aside0.mk ((by rw [hg];exact (below_size (by repeat (first|(with_reducible first|exact HB.out|apply eA|apply eN|apply eD|refine below_set ?_ GE150.out)|exact HB.out))) : w.heap.size ≤ gb151));have n5_ := Aside0.mk ((by rw [hg];exact Nat.ne_of_lt (blk_lt (g := gb150) (o := .cells #[.slice A0_0 l0_0.length c0_0] 24 (0, 0)) (by (with_reducible repeat first|apply bN|apply bD|apply bA);exact BK150.out)) : gb150 ≠ gb151));have n6_ := Aside0.mk ((by rw [hg];exact Nat.ne_of_gt (blk_lt (g := gb150) (o := .cells #[.slice A0_0 l0_0.length c0_0] 24 (0, 0)) (by (with_reducible repeat first|apply bN|apply bD|apply bA);exact BK150.out)) : gb151 ≠ gb150));clear BK150;clear HB;have BK150 := n0_;have HB := n1_;have BK151 := n2_;have GW151 := n3_;have GE151 := n4_;have NB150_151 := n5_;have NB151_150 := n6_;clear n0_ n1_ n2_ n3_ n4_ n5_ n6_;clear hb hbox hg)|((with_reducible refine gate_dst (N := 3) rfl ?_);refine box_event ?hg (N := 3) ?hd (cs := #[.int .i64 0, .int .i64 0]) (t := 27) ?hr ?_;(case hd => rfl);(case hg => rfl);(case hr => first|(go_simp;done)|(go_simp;rfl));intro gb152 hg w6 hbox hb;have n0_ := Aside0.mk (blk_below (g := gb150) (o := .cells #[.slice A0_0 l0_0.length c0_0] 24 (0, 0)) (by (with_reducible repeat first|apply bN|apply bD|apply bA);exact BK150.out) hb);have n1_ := Aside0.mk (blk_below (g := gb151) (o := .cells #[.slice none 0 0] 24 (0, 0)) (by (with_reducible repeat first|apply bN|apply bD|apply bA);exact BK151.out) hb);have n2_ := Aside0.mk (below_step (by repeat (first|(with_reducible first|exact HB.out|apply eA|apply eN|apply eD|refine below_set ?_ GE150.out|refine below_set ?_ GE151.out)|exact HB.out)) hb);have n3_ := Aside0.mk (hbox);have n4_ := Aside0.mk ((by rw [hg];exact (below_size (by repeat (first|(with_reducible first|exact HB.out|apply eA|apply eN|apply eD|refine below_set ?_ GE150.out|refine below_set ?_ GE151.out)|exact HB.out))) : w.heap.size ≤ gb152));have n5_ := Aside0.mk ((by rw [hg];exact (below_size (by repeat (first|(with_reducible first|exact HB.out|apply eA|apply eN|apply eD|refine below_set ?_ GE150.out|refine below_set ?_ GE151.out)|exact HB.out))) : w.heap.size ≤ gb152));have n6_ := Aside0.mk ((by rw [hg];exact Nat.ne_of_lt (blk_lt (g := gb150) (o := .cells #[.slice A0_0 l0_0.length c0_0] 24 (0, 0)) (by (with_reducible repeat first|apply bN|apply bD|apply bA);exact BK150.out)) : gb150 ≠ gb152));have n7_ := Aside0.mk ((by rw [hg];exact Nat.ne_of_gt (blk_lt (g := gb150) (o := .cells #[.slice A0_0 l0_0.length c0_0] 24 (0, 0)) (by (with_reducible repeat first|apply bN|apply bD|apply bA);exact BK150.out)) : gb152 ≠ gb150));have n8_ := Aside0.mk ((by rw [hg];exact Nat.ne_of_lt (blk_lt (g := gb151) (o := .cells #[.slice none 0 0] 24 (0, 0)) (by (with_reducible repeat first|apply bN|apply bD|apply bA);exact BK151.out)) : gb151 ≠ gb152));have n9_ := Aside0.mk ((by rw [hg];exact Nat.ne_of_gt (blk_lt (g := gb151) (o := .cells #[.slice none 0 0] 24 (0, 0)) (by (with_reducible repeat first|apply bN|apply bD|apply bA);exact BK151.out)) : gb152 ≠ gb151));clear BK150;clear BK151;clear HB;have BK150 := n0_;have BK151 := n1_;have HB := n2_;have BK152 := n3_;have GW152 := n4_;have GE152 := n5_;have NB150_152 := n6_;have NB152_150 := n7_;have NB151_152 := n8_;have NB152_151 := n9_;clear n0_ n1_ n2_ n3_ n4_ n5_ n6_ n7_ n8_ n9_;clear hb hbox hg;have hnb7 := NB150_151.out;have hnc7 := NB151_150.out;have hnb8 := NB150_152.out;have hnc8 := NB152_150.out;have hcz9_0 : w6.cell? ⟨gb150, 0, none⟩ = some (.slice A0_0 l0_0.length c0_0) := (blk_cell BK150.out 0).trans rfl;have hfz9_0 := blk_frozen BK150.out 0)|((with_reducible refine gate_callee (f := 19) rfl ?_);refine goesL_ (some 10) rfl rfl Try.func19 (by kernel_rfl) rfl #[.agg #[.slice A0_0 l0_0.length c0_0]] rfl (by (try simp only [List.map_toArray, List.map_cons, List.map_nil]);first|done|rfl|(simp only [List.length_drop, List.length_take];rfl)) ?_;(with_reducible refine (textpatch_Validate.calls _ _ l0_0 t153 t154 _ ?side1 ?side2 A2.out).mono ?_);(case side1 => repeat (first|exact (Kd.C_below HR0_0.out HB.out)|(with_reducible refine Kd.C_alloc ?_ _)|(with_reducible refine Kd.C_drewN ?_ _)|(with_reducible refine Kd.C_drew ?_)));(case side2 => exact HC0_0.out);rintro e w10 ⟨rfl, hb⟩;refine ⟨_, rfl, ?_⟩;have n0_ := Aside0.mk (blk_below (g := gb150) (o := .cells #[.slice A0_0 l0_0.length c0_0] 24 (0, 0)) (by (with_reducible repeat first|apply bN|apply bD|apply bA);exact BK150.out) hb);have n1_ := Aside0.mk (blk_below (g := gb151) (o := .cells #[.slice none 0 0] 24 (0, 0)) (by (with_reducible repeat first|apply bN|apply bD|apply bA);exact BK151.out) hb);have n2_ := Aside0.mk (blk_below (g := gb152) (o := .cells #[.int .i64 0, .int .i64 0] 27 (0, 0)) (by (with_reducible repeat first|apply bN|apply bD|apply bA);exact BK152.out) hb);have n3_ := Aside0.mk (below_step (by repeat (first|(with_reducible first|exact HB.out|apply eA|apply eN|apply eD|refine below_set ?_ GE150.out|refine below_set ?_ GE151.out|refine below_set ?_ GE152.out)|exact HB.out)) hb);clear BK150;clear BK151;clear BK152;clear HB;have BK150 := n0_;have BK151 := n1_;have BK152 := n2_;have HB := n3_;clear n0_ n1_ n2_ n3_;(try clear hb);(try clear hb2);(try clear hk);(try clear hi))|((with_reducible refine gate_dst (N := 4) rfl ?_);refine box_event ?hg (N := 4) ?hd (cs := #[.int .i64 0, .int .i64 0]) (t := 27) ?hr ?_;(case hd => rfl);(case hg => rfl);(case hr => first|(go_simp;done)|(go_simp;rfl));intro gb155 hg w11 hbox hb;have n0_ := Aside0.mk (blk_below (g := gb150) (o := .cells #[.slice A0_0 l0_0.length c0_0] 24 (0, 0)) (by (with_reducible repeat first|apply bN|apply bD|apply bA);exact BK150.out) hb);have n1_ := Aside0.mk (blk_below (g := gb151) (o := .cells #[.slice none 0 0] 24 (0, 0)) (by (with_reducible repeat first|apply bN|apply bD|apply bA);exact BK151.out) hb);have n2_ := Aside0.mk (blk_below (g := gb152) (o := .cells #[.int .i64 0, .int .i64 0] 27 (0, 0)) (by (with_reducible repeat first|apply bN|apply bD|apply bA);exact BK152.out) hb);have n3_ := Aside0.mk (below_step (by repeat (first|(with_reducible first|exact HB.out|apply eA|apply eN|apply eD|refine below_set ?_ GE150.out|refine below_set ?_ GE151.out|refine below_set ?_ GE152.out)|exact HB.out)) hb);have n4_ := Aside0.mk (hbox);have n5_ := Aside0.mk ((by rw [hg];exact (below_size (by repeat (first|(with_reducible first|exact HB.out|apply eA|apply eN|apply eD|refine below_set ?_ GE150.out|refine below_set ?_ GE151.out|refine below_set ?_ GE152.out)|exact HB.out))) : w.heap.size ≤ gb155));have n6_ := Aside0.mk ((by rw [hg];exact (below_size (by repeat (first|(with_reducible first|exact HB.out|apply eA|apply eN|apply eD|refine below_set ?_ GE150.out|refine below_set ?_ GE151.out|refine below_set ?_ GE152.out)|exact HB.out))) : w.heap.size ≤ gb155));have n7_ := Aside0.mk ((by rw [hg];exact Nat.ne_of_lt (blk_lt (g := gb150) (o := .cells #[.slice A0_0 l0_0.length c0_0] 24 (0, 0)) (by (with_reducible repeat first|apply bN|apply bD|apply bA);exact BK150.out)) : gb150 ≠ gb155));have n8_ := Aside0.mk ((by rw [hg];exact Nat.ne_of_gt (blk_lt (g := gb150) (o := .cells #[.slice A0_0 l0_0.length c0_0] 24 (0, 0)) (by (with_reducible repeat first|apply bN|apply bD|apply bA);exact BK150.out)) : gb155 ≠ gb150));have n9_ := Aside0.mk ((by rw [hg];exact Nat.ne_of_lt (blk_lt (g := gb151) (o := .cells #[.slice none 0 0] 24 (0, 0)) (by (with_reducible repeat first|apply bN|apply bD|apply bA);exact BK151.out)) : gb151 ≠ gb155));have n10_ := Aside0.mk ((by rw [hg];exact Nat.ne_of_gt (blk_lt (g := gb151) (o := .cells #[.slice none 0 0] 24 (0, 0)) (by (with_reducible repeat first|apply bN|apply bD|apply bA);exact BK151.out)) : gb155 ≠ gb151));have n11_ := Aside0.mk ((by rw [hg];exact Nat.ne_of_lt (blk_lt (g := gb152) (o := .cells #[.int .i64 0, .int .i64 0] 27 (0, 0)) (by (with_reducible repeat first|apply bN|apply bD|apply bA);exact BK152.out)) : gb152 ≠ gb155));have n12_ := Aside0.mk ((by rw [hg];exact Nat.ne_of_gt (blk_lt (g := gb152) (o := .cells #[.int .i64 0, .int .i64 0] 27 (0, 0)) (by (with_reducible repeat first|apply bN|apply bD|apply bA);exact BK152.out)) : gb155 ≠ gb152));clear BK150;clear BK151;clear BK152;clear HB;have BK150 := n0_;have BK151 := n1_;have BK152 := n2_;have HB := n3_;have BK155 := n4_;have GW155 := n5_;have GE155 := n6_;have NB150_155 := n7_;have NB155_150 := n8_;have NB151_155 := n9_;have NB155_151 := n10_;have NB152_155 := n11_;have NB155_152 := n12_;clear n0_ n1_ n2_ n3_ n4_ n5_ n6_ n7_ n8_ n9_ n10_ n11_ n12_;clear hb hbox hg;have hnb12 := NB155_150.out;have hnc12 := NB150_155.out;have hnb13 := NB155_151.out;have hnc13 := NB151_155.out;have hnb14 := NB155_152.out;have hnc14 := NB152_155.out;have hcz15_0 : w11.cell? ⟨gb155, 0, none⟩ = some (.int .i64 0) := (blk_cell BK155.out 0).trans rfl;have hcz15_1 : w11.cell? ⟨gb155, 1, none⟩ = some (.int .i64 0) := (blk_cell BK155.out 1).trans rfl;have hfz15_0 := blk_frozen BK155.out 0;have hfz15_1 := blk_frozen BK155.out 1))
    have n0_ : Aside0 (((w11.setCell ⟨gb155, 0, none⟩ (.int .i64 t153)).setCell ⟨gb155, 1, none⟩ (.int .i64 t154)).heap[gb150]? = some (.cells #[.slice A0_0 l0_0.length c0_0] 24 (0, 0))) := ⟨by (with_reducible repeat first|apply bN|apply bD|apply bA);refine blk_far ?_ NB150_155.out _;(with_reducible repeat first|apply bN|apply bD|apply bA);refine blk_far ?_ NB150_155.out _;(with_reducible repeat first|apply bN|apply bD|apply bA);exact BK150.out⟩
    have n1_ : Aside0 (((w11.setCell ⟨gb155, 0, none⟩ (.int .i64 t153)).setCell ⟨gb155, 1, none⟩ (.int .i64 t154)).heap[gb151]? = some (.cells #[.slice none 0 0] 24 (0, 0))) := ⟨by (with_reducible repeat first|apply bN|apply bD|apply bA);refine blk_far ?_ NB151_155.out _;(with_reducible repeat first|apply bN|apply bD|apply bA);refine blk_far ?_ NB151_155.out _;(with_reducible repeat first|apply bN|apply bD|apply bA);exact BK151.out⟩
    have n2_ : Aside0 (((w11.setCell ⟨gb155, 0, none⟩ (.int .i64 t153)).setCell ⟨gb155, 1, none⟩ (.int .i64 t154)).heap[gb152]? = some (.cells #[.int .i64 0, .int .i64 0] 27 (0, 0))) := ⟨by (with_reducible repeat first|apply bN|apply bD|apply bA);refine blk_far ?_ NB152_155.out _;(with_reducible repeat first|apply bN|apply bD|apply bA);refine blk_far ?_ NB152_155.out _;(with_reducible repeat first|apply bN|apply bD|apply bA);exact BK152.out⟩
    have n3_ : Aside0 (((w11.setCell ⟨gb155, 0, none⟩ (.int .i64 t153)).setCell ⟨gb155, 1, none⟩ (.int .i64 t154)).heap[gb155]? = some (.cells #[.int .i64 t153, .int .i64 t154] 27 (0, 0))) := ⟨by (with_reducible repeat first|apply bN|apply bD|apply bA);refine blk_put (cs := #[.int .i64 t153, .int .i64 0]) ?_ 1 _ rfl;(with_reducible repeat first|apply bN|apply bD|apply bA);refine blk_put (cs := #[.int .i64 0, .int .i64 0]) ?_ 0 _ rfl;(with_reducible repeat first|apply bN|apply bD|apply bA);exact BK155.out⟩
    have n4_ : Aside0 (Below w.heap.size w ((w11.setCell ⟨gb155, 0, none⟩ (.int .i64 t153)).setCell ⟨gb155, 1, none⟩ (.int .i64 t154))) := ⟨by repeat (first|(with_reducible first|exact HB.out|apply eA|apply eN|apply eD|refine below_set ?_ GE150.out|refine below_set ?_ GE151.out|refine below_set ?_ GE152.out|refine below_set ?_ GE155.out)|exact HB.out)⟩
    (try clear BK150)
    (try clear BK151)
    (try clear BK152)
    (try clear BK155)
    (try clear HB)
    generalize ((w11.setCell ⟨gb155, 0, none⟩ (.int .i64 t153)).setCell ⟨gb155, 1, none⟩ (.int .i64 t154)) = w16 at n0_ n1_ n2_ n3_ n4_ ⊢
    have BK150 := n0_
    have BK151 := n1_
    have BK152 := n2_
    have BK155 := n3_
    have HB := n4_
    clear n0_ n1_ n2_ n3_ n4_
    have n0_ := Aside0.mk (blk_drew BK150.out)
    have n1_ := Aside0.mk (blk_drew BK151.out)
    have n2_ := Aside0.mk (blk_drew BK152.out)
    have n3_ := Aside0.mk (blk_drew BK155.out)
    have n4_ := Aside0.mk (below_drew1 HB.out)
    clear BK150
    clear BK151
    clear BK152
    clear BK155
    clear HB
    have BK150 := n0_
    have BK151 := n1_
    have BK152 := n2_
    have BK155 := n3_
    have HB := n4_
    clear n0_ n1_ n2_ n3_ n4_
    refine start_ (n := 4) (S := fun w' => w'.cell? ⟨gb155, 0, none⟩ = some (.int .i64 t153) ∧ w'.cell? ⟨gb155, 1, none⟩ = some (.int .i64 t154)) (ds := []) #[false, false, false, false] (by kernel_rfl) rfl rfl ⟨(blk_cell BK155.out 0).trans rfl, (blk_cell BK155.out 1).trans rfl⟩ (fun hHeld => ?_)
    generalize w16.drew = w17 at BK150 BK151 BK152 BK155 HB hHeld ⊢
    refine pure_ (i := 0) (N := some 14) (v := ?_) (a' := ?_) #[true, false, false, false] rfl rfl (by kernel_rfl) (fun _ _ _ h => h) (Or.inl ⟨by rfl, ?_⟩) ?_ ?_
    rotate_left
    · intro w'
      go_simp
      with_reducible rfl
    rotate_left
    · simp only [Act.put, sA, sB, sC, i64_w, i32_w]
      rfl
    refine take_ (i := 1) (N := some 15) (v := ?_) (a' := ?_) #[true, true, false, false] rfl rfl (by kernel_rfl) (fun _ _ _ h => h) (Or.inl ⟨by rfl, ?_⟩) hHeld ?_ ?_
    rotate_left
    · rintro w' ⟨s0, s1⟩
      go_simp
      with_reducible rfl
    rotate_left
    · simp only [Act.put, sA, sB, sC, i64_w, i32_w]
      rfl
    refine one_ (i := 2) (N := none) #[true, true, true, false] rfl rfl (by kernel_rfl) (by decide) (fun K hK => ?_)
    have hs18 : w17.cell? ⟨gb151, 0, none⟩ = some (.slice none 0 0) := (blk_cell BK151.out 0).trans rfl
    have hfs18 := blk_frozen BK151.out 0
    have hns18_0 := NB150_151.out
    have hns18_2 := NB152_151.out
    have hns18_3 := NB155_151.out
    have hms18_0 := NB151_150.out
    have hms18_2 := NB151_152.out
    have hms18_3 := NB151_155.out
    refine skip_ (w1 := ?_) (by rfl) rfl ?_ ?_
    rotate_left
    · go_simp
      rfl
    refine hK.out _ _ ⟨((cell_far (p := ⟨gb151, _, none⟩) NB155_151.out _).trans (hHeld.1)), ((cell_far (p := ⟨gb151, _, none⟩) NB155_151.out _).trans (hHeld.2))⟩ (fun hHeld => ?_)
    clear hK K
    refine one_ (i := 3) (N := none) #[true, true, true, true] rfl rfl (by kernel_rfl) (by decide) (fun K hK => ?_)
    have hs19 : w17.cell? ⟨gb152, 0, none⟩ = some (.int .i64 0) := (blk_cell BK152.out 0).trans rfl
    have hfs19 := blk_frozen BK152.out 0
    have hns19_0 := NB150_152.out
    have hns19_1 := NB151_152.out
    have hns19_3 := NB155_152.out
    have hms19_0 := NB152_150.out
    have hms19_1 := NB152_151.out
    have hms19_3 := NB152_155.out
    have hs20 : w17.cell? ⟨gb152, 1, none⟩ = some (.int .i64 0) := (blk_cell BK152.out 1).trans rfl
    have hfs20 := blk_frozen BK152.out 1
    have hns20_0 := NB150_152.out
    have hns20_1 := NB151_152.out
    have hns20_3 := NB155_152.out
    have hms20_0 := NB152_150.out
    have hms20_1 := NB152_151.out
    have hms20_3 := NB152_155.out
    refine skip_ (w1 := ?_) (by rfl) rfl ?_ ?_
    rotate_left
    · go_simp
      rfl
    refine hK.out _ _ ⟨((cell_far (p := ⟨gb152, _, none⟩) NB155_152.out _).trans (((cell_far (p := ⟨gb152, _, none⟩) NB155_152.out _).trans (hHeld.1)))), ((cell_far (p := ⟨gb152, _, none⟩) NB155_152.out _).trans (((cell_far (p := ⟨gb152, _, none⟩) NB155_152.out _).trans (hHeld.2))))⟩ (fun hHeld => ?_)
    clear hK K
    refine done_ (by kernel_rfl) ?_
    try go_wp2
    refine bodyPost_ret (results_cc rfl _ _ gb151 gb152 24 27 #[.slice none 0 0] #[.int .i64 t153, .int .i64 t154] (0, 0) (0, 0) _ _ rfl (by (with_reducible repeat first|apply bN|apply bD|apply bA);refine blk_far ?_ NB151_152.out _;(with_reducible repeat first|apply bN|apply bD|apply bA);refine blk_far ?_ NB151_152.out _;(with_reducible repeat first|apply bN|apply bD|apply bA);refine blk_put (cs := #[.slice none 0 0]) ?_ 0 _ rfl;(with_reducible repeat first|apply bN|apply bD|apply bA);exact BK151.out) Try.underlying24 rfl (by kernel_rfl) rfl (by (with_reducible repeat first|apply bN|apply bD|apply bA);refine blk_put (cs := #[.int .i64 t153, .int .i64 0]) ?_ 1 _ rfl;(with_reducible repeat first|apply bN|apply bD|apply bA);refine blk_put (cs := #[.int .i64 0, .int .i64 0]) ?_ 0 _ rfl;(with_reducible repeat first|apply bN|apply bD|apply bA);refine blk_far ?_ NB152_151.out _;(with_reducible repeat first|apply bN|apply bD|apply bA);exact BK152.out) Try.underlying27 rfl (by kernel_rfl)) rfl ?_
    exact ⟨_, by first|rfl|(simp [errW_none, errW_some] <;> rfl)|(simp [*, errW_none, errW_some] <;> rfl), Kd.S_V (Kd.S_nil _ _ _ 0 _), by repeat (first|(with_reducible first|exact HB.out|apply eA|apply eN|apply eD|refine below_set ?_ GE150.out|refine below_set ?_ GE151.out|refine below_set ?_ GE152.out|refine below_set ?_ GE155.out)|exact HB.out)⟩
  · rw [if_neg c3] at H
    have c3b0 : (!(t153 == 0) || (!(t154 == 0))) = false := by simpa using c3
    clear c3
    have H' := Aside0.mk H
    clear H
    go_enter Try.func17, Try.ntmps17
    go_wp2_with (first|((with_reducible refine gate_dst (N := 1) rfl ?_);refine box_event ?hg (N := 1) ?hd (cs := #[.slice A0_0 l0_0.length c0_0]) (t := 24) ?hr ?_;(case hd => rfl);(case hg => rfl);(case hr => first|(go_simp;done)|(go_simp;rfl));intro gb150 hg w21 hbox hb;have n0_ := Aside0.mk (below_step (by repeat (first|(with_reducible first|exact HB.out|apply eA|apply eN|apply eD)|exact HB.out)) hb);have n1_ := Aside0.mk (hbox);have n2_ := Aside0.mk ((by rw [hg];exact (below_size (by repeat (first|(with_reducible first|exact HB.out|apply eA|apply eN|apply eD)|exact HB.out))) : w.heap.size ≤ gb150));have n3_ := Aside0.mk ((by rw [hg];exact (below_size (by repeat (first|(with_reducible first|exact HB.out|apply eA|apply eN|apply eD)|exact HB.out))) : w.heap.size ≤ gb150));clear HB;have HB := n0_;have BK150 := n1_;have GW150 := n2_;have GE150 := n3_;clear n0_ n1_ n2_ n3_;clear hb hbox hg)|((with_reducible refine gate_dst (N := 2) rfl ?_);refine box_event ?hg (N := 2) ?hd (cs := #[.slice none 0 0]) (t := 24) ?hr ?_;(case hd => rfl);(case hg => rfl);(case hr => first|(go_simp;done)|(go_simp;rfl));intro gb151 hg w22 hbox hb;have n0_ := Aside0.mk (blk_below (g := gb150) (o := .cells #[.slice A0_0 l0_0.length c0_0] 24 (0, 0)) (by (with_reducible repeat first|apply bN|apply bD|apply bA);exact BK150.out) hb);have n1_ := Aside0.mk (below_step (by repeat (first|(with_reducible first|exact HB.out|apply eA|apply eN|apply eD|refine below_set ?_ GE150.out)|exact HB.out)) hb);have n2_ := Aside0.mk (hbox);have n3_ := Aside0.mk ((by rw [hg];exact (below_size (by repeat (first|(with_reducible first|exact HB.out|apply eA|apply eN|apply eD|refine below_set ?_ GE150.out)|exact HB.out))) : w.heap.size ≤ gb151));have n4_ := Aside0.mk ((by rw [hg];exact (below_size (by repeat (first|(with_reducible first|exact HB.out|apply eA|apply eN|apply eD|refine below_set ?_ GE150.out)|exact HB.out))) : w.heap.size ≤ gb151));have n5_ := Aside0.mk ((by rw [hg];exact Nat.ne_of_lt (blk_lt (g := gb150) (o := .cells #[.slice A0_0 l0_0.length c0_0] 24 (0, 0)) (by (with_reducible repeat first|apply bN|apply bD|apply bA);exact BK150.out)) : gb150 ≠ gb151));have n6_ := Aside0.mk ((by rw [hg];exact Nat.ne_of_gt (blk_lt (g := gb150) (o := .cells #[.slice A0_0 l0_0.length c0_0] 24 (0, 0)) (by (with_reducible repeat first|apply bN|apply bD|apply bA);exact BK150.out)) : gb151 ≠ gb150));clear BK150;clear HB;have BK150 := n0_;have HB := n1_;have BK151 := n2_;have GW151 := n3_;have GE151 := n4_;have NB150_151 := n5_;have NB151_150 := n6_;clear n0_ n1_ n2_ n3_ n4_ n5_ n6_;clear hb hbox hg)|((with_reducible refine gate_dst (N := 3) rfl ?_);refine box_event ?hg (N := 3) ?hd (cs := #[.int .i64 0, .int .i64 0]) (t := 27) ?hr ?_;(case hd => rfl);(case hg => rfl);(case hr => first|(go_simp;done)|(go_simp;rfl));intro gb152 hg w23 hbox hb;have n0_ := Aside0.mk (blk_below (g := gb150) (o := .cells #[.slice A0_0 l0_0.length c0_0] 24 (0, 0)) (by (with_reducible repeat first|apply bN|apply bD|apply bA);exact BK150.out) hb);have n1_ := Aside0.mk (blk_below (g := gb151) (o := .cells #[.slice none 0 0] 24 (0, 0)) (by (with_reducible repeat first|apply bN|apply bD|apply bA);exact BK151.out) hb);have n2_ := Aside0.mk (below_step (by repeat (first|(with_reducible first|exact HB.out|apply eA|apply eN|apply eD|refine below_set ?_ GE150.out|refine below_set ?_ GE151.out)|exact HB.out)) hb);have n3_ := Aside0.mk (hbox);have n4_ := Aside0.mk ((by rw [hg];exact (below_size (by repeat (first|(with_reducible first|exact HB.out|apply eA|apply eN|apply eD|refine below_set ?_ GE150.out|refine below_set ?_ GE151.out)|exact HB.out))) : w.heap.size ≤ gb152));have n5_ := Aside0.mk ((by rw [hg];exact (below_size (by repeat (first|(with_reducible first|exact HB.out|apply eA|apply eN|apply eD|refine below_set ?_ GE150.out|refine below_set ?_ GE151.out)|exact HB.out))) : w.heap.size ≤ gb152));have n6_ := Aside0.mk ((by rw [hg];exact Nat.ne_of_lt (blk_lt (g := gb150) (o := .cells #[.slice A0_0 l0_0.length c0_0] 24 (0, 0)) (by (with_reducible repeat first|apply bN|apply bD|apply bA);exact BK150.out)) : gb150 ≠ gb152));have n7_ := Aside0.mk ((by rw [hg];exact Nat.ne_of_gt (blk_lt (g := gb150) (o := .cells #[.slice A0_0 l0_0.length c0_0] 24 (0, 0)) (by (with_reducible repeat first|apply bN|apply bD|apply bA);exact BK150.out)) : gb152 ≠ gb150));have n8_ := Aside0.mk ((by rw [hg];exact Nat.ne_of_lt (blk_lt (g := gb151) (o := .cells #[.slice none 0 0] 24 (0, 0)) (by (with_reducible repeat first|apply bN|apply bD|apply bA);exact BK151.out)) : gb151 ≠ gb152));have n9_ := Aside0.mk ((by rw [hg];exact Nat.ne_of_gt (blk_lt (g := gb151) (o := .cells #[.slice none 0 0] 24 (0, 0)) (by (with_reducible repeat first|apply bN|apply bD|apply bA);exact BK151.out)) : gb152 ≠ gb151));clear BK150;clear BK151;clear HB;have BK150 := n0_;have BK151 := n1_;have HB := n2_;have BK152 := n3_;have GW152 := n4_;have GE152 := n5_;have NB150_152 := n6_;have NB152_150 := n7_;have NB151_152 := n8_;have NB152_151 := n9_;clear n0_ n1_ n2_ n3_ n4_ n5_ n6_ n7_ n8_ n9_;clear hb hbox hg;have hnb24 := NB150_151.out;have hnc24 := NB151_150.out;have hnb25 := NB150_152.out;have hnc25 := NB152_150.out;have hcz26_0 : w23.cell? ⟨gb150, 0, none⟩ = some (.slice A0_0 l0_0.length c0_0) := (blk_cell BK150.out 0).trans rfl;have hfz26_0 := blk_frozen BK150.out 0)|((with_reducible refine gate_callee (f := 19) rfl ?_);refine goesL_ (some 10) rfl rfl Try.func19 (by kernel_rfl) rfl #[.agg #[.slice A0_0 l0_0.length c0_0]] rfl (by (try simp only [List.map_toArray, List.map_cons, List.map_nil]);first|done|rfl|(simp only [List.length_drop, List.length_take];rfl)) ?_;(with_reducible refine (textpatch_Validate.calls _ _ l0_0 t153 t154 _ ?side1 ?side2 A2.out).mono ?_);(case side1 => repeat (first|exact (Kd.C_below HR0_0.out HB.out)|(with_reducible refine Kd.C_alloc ?_ _)|(with_reducible refine Kd.C_drewN ?_ _)|(with_reducible refine Kd.C_drew ?_)));(case side2 => exact HC0_0.out);rintro e w27 ⟨rfl, hb⟩;refine ⟨_, rfl, ?_⟩;have n0_ := Aside0.mk (blk_below (g := gb150) (o := .cells #[.slice A0_0 l0_0.length c0_0] 24 (0, 0)) (by (with_reducible repeat first|apply bN|apply bD|apply bA);exact BK150.out) hb);have n1_ := Aside0.mk (blk_below (g := gb151) (o := .cells #[.slice none 0 0] 24 (0, 0)) (by (with_reducible repeat first|apply bN|apply bD|apply bA);exact BK151.out) hb);have n2_ := Aside0.mk (blk_below (g := gb152) (o := .cells #[.int .i64 0, .int .i64 0] 27 (0, 0)) (by (with_reducible repeat first|apply bN|apply bD|apply bA);exact BK152.out) hb);have n3_ := Aside0.mk (below_step (by repeat (first|(with_reducible first|exact HB.out|apply eA|apply eN|apply eD|refine below_set ?_ GE150.out|refine below_set ?_ GE151.out|refine below_set ?_ GE152.out)|exact HB.out)) hb);clear BK150;clear BK151;clear BK152;clear HB;have BK150 := n0_;have BK151 := n1_;have BK152 := n2_;have HB := n3_;clear n0_ n1_ n2_ n3_;(try clear hb);(try clear hb2);(try clear hk);(try clear hi))|((with_reducible refine gate_dst (N := 4) rfl ?_);refine box_event ?hg (N := 4) ?hd (cs := #[.int .i64 0, .int .i64 0]) (t := 27) ?hr ?_;(case hd => rfl);(case hg => rfl);(case hr => first|(go_simp;done)|(go_simp;rfl));intro gb155 hg w28 hbox hb;have n0_ := Aside0.mk (blk_below (g := gb150) (o := .cells #[.slice A0_0 l0_0.length c0_0] 24 (0, 0)) (by (with_reducible repeat first|apply bN|apply bD|apply bA);exact BK150.out) hb);have n1_ := Aside0.mk (blk_below (g := gb151) (o := .cells #[.slice none 0 0] 24 (0, 0)) (by (with_reducible repeat first|apply bN|apply bD|apply bA);exact BK151.out) hb);have n2_ := Aside0.mk (blk_below (g := gb152) (o := .cells #[.int .i64 0, .int .i64 0] 27 (0, 0)) (by (with_reducible repeat first|apply bN|apply bD|apply bA);exact BK152.out) hb);have n3_ := Aside0.mk (below_step (by repeat (first|(with_reducible first|exact HB.out|apply eA|apply eN|apply eD|refine below_set ?_ GE150.out|refine below_set ?_ GE151.out|refine below_set ?_ GE152.out)|exact HB.out)) hb);have n4_ := Aside0.mk (hbox);have n5_ := Aside0.mk ((by rw [hg];exact (below_size (by repeat (first|(with_reducible first|exact HB.out|apply eA|apply eN|apply eD|refine below_set ?_ GE150.out|refine below_set ?_ GE151.out|refine below_set ?_ GE152.out)|exact HB.out))) : w.heap.size ≤ gb155));have n6_ := Aside0.mk ((by rw [hg];exact (below_size (by repeat (first|(with_reducible first|exact HB.out|apply eA|apply eN|apply eD|refine below_set ?_ GE150.out|refine below_set ?_ GE151.out|refine below_set ?_ GE152.out)|exact HB.out))) : w.heap.size ≤ gb155));have n7_ := Aside0.mk ((by rw [hg];exact Nat.ne_of_lt (blk_lt (g := gb150) (o := .cells #[.slice A0_0 l0_0.length c0_0] 24 (0, 0)) (by (with_reducible repeat first|apply bN|apply bD|apply bA);exact BK150.out)) : gb150 ≠ gb155));have n8_ := Aside0.mk ((by rw [hg];exact Nat.ne_of_gt (blk_lt (g := gb150) (o := .cells #[.slice A0_0 l0_0.length c0_0] 24 (0, 0)) (by (with_reducible repeat first|apply bN|apply bD|apply bA);exact BK150.out)) : gb155 ≠ gb150));have n9_ := Aside0.mk ((by rw [hg];exact Nat.ne_of_lt (blk_lt (g := gb151) (o := .cells #[.slice none 0 0] 24 (0, 0)) (by (with_reducible repeat first|apply bN|apply bD|apply bA);exact BK151.out)) : gb151 ≠ gb155));have n10_ := Aside0.mk ((by rw [hg];exact Nat.ne_of_gt (blk_lt (g := gb151) (o := .cells #[.slice none 0 0] 24 (0, 0)) (by (with_reducible repeat first|apply bN|apply bD|apply bA);exact BK151.out)) : gb155 ≠ gb151));have n11_ := Aside0.mk ((by rw [hg];exact Nat.ne_of_lt (blk_lt (g := gb152) (o := .cells #[.int .i64 0, .int .i64 0] 27 (0, 0)) (by (with_reducible repeat first|apply bN|apply bD|apply bA);exact BK152.out)) : gb152 ≠ gb155));have n12_ := Aside0.mk ((by rw [hg];exact Nat.ne_of_gt (blk_lt (g := gb152) (o := .cells #[.int .i64 0, .int .i64 0] 27 (0, 0)) (by (with_reducible repeat first|apply bN|apply bD|apply bA);exact BK152.out)) : gb155 ≠ gb152));clear BK150;clear BK151;clear BK152;clear HB;have BK150 := n0_;have BK151 := n1_;have BK152 := n2_;have HB := n3_;have BK155 := n4_;have GW155 := n5_;have GE155 := n6_;have NB150_155 := n7_;have NB155_150 := n8_;have NB151_155 := n9_;have NB155_151 := n10_;have NB152_155 := n11_;have NB155_152 := n12_;clear n0_ n1_ n2_ n3_ n4_ n5_ n6_ n7_ n8_ n9_ n10_ n11_ n12_;clear hb hbox hg;have hnb29 := NB155_150.out;have hnc29 := NB150_155.out;have hnb30 := NB155_151.out;have hnc30 := NB151_155.out;have hnb31 := NB155_152.out;have hnc31 := NB152_155.out;have hcz32_0 : w28.cell? ⟨gb155, 0, none⟩ = some (.int .i64 0) := (blk_cell BK155.out 0).trans rfl;have hcz32_1 : w28.cell? ⟨gb155, 1, none⟩ = some (.int .i64 0) := (blk_cell BK155.out 1).trans rfl;have hfz32_0 := blk_frozen BK155.out 0;have hfz32_1 := blk_frozen BK155.out 1)|((with_reducible refine gate_dst (N := 5) rfl ?_);refine box_event ?hg (N := 5) ?hd (cs := #[.slice none 0 0]) (t := 24) ?hr ?_;(case hd => rfl);(case hg => rfl);(case hr => first|(go_simp;done)|(go_simp;rfl));intro gb156 hg w33 hbox hb;have n0_ := Aside0.mk (blk_below (g := gb150) (o := .cells #[.slice A0_0 l0_0.length c0_0] 24 (0, 0)) (by (with_reducible repeat first|apply bN|apply bD|apply bA);refine blk_far ?_ NB150_155.out _;(with_reducible repeat first|apply bN|apply bD|apply bA);refine blk_far ?_ NB150_155.out _;(with_reducible repeat first|apply bN|apply bD|apply bA);exact BK150.out) hb);have n1_ := Aside0.mk (blk_below (g := gb151) (o := .cells #[.slice none 0 0] 24 (0, 0)) (by (with_reducible repeat first|apply bN|apply bD|apply bA);refine blk_far ?_ NB151_155.out _;(with_reducible repeat first|apply bN|apply bD|apply bA);refine blk_far ?_ NB151_155.out _;(with_reducible repeat first|apply bN|apply bD|apply bA);exact BK151.out) hb);have n2_ := Aside0.mk (blk_below (g := gb152) (o := .cells #[.int .i64 0, .int .i64 0] 27 (0, 0)) (by (with_reducible repeat first|apply bN|apply bD|apply bA);refine blk_far ?_ NB152_155.out _;(with_reducible repeat first|apply bN|apply bD|apply bA);refine blk_far ?_ NB152_155.out _;(with_reducible repeat first|apply bN|apply bD|apply bA);exact BK152.out) hb);have n3_ := Aside0.mk (blk_below (g := gb155) (o := .cells #[.int .i64 t153, .int .i64 t154] 27 (0, 0)) (by (with_reducible repeat first|apply bN|apply bD|apply bA);refine blk_put (cs := #[.int .i64 t153, .int .i64 0]) ?_ 1 _ rfl;(with_reducible repeat first|apply bN|apply bD|apply bA);refine blk_put (cs := #[.int .i64 0, .int .i64 0]) ?_ 0 _ rfl;(with_reducible repeat first|apply bN|apply bD|apply bA);exact BK155.out) hb);have n4_ := Aside0.mk (below_step (by repeat (first|(with_reducible first|exact HB.out|apply eA|apply eN|apply eD|refine below_set ?_ GE150.out|refine below_set ?_ GE151.out|refine below_set ?_ GE152.out|refine below_set ?_ GE155.out)|exact HB.out)) hb);have n5_ := Aside0.mk (hbox);have n6_ := Aside0.mk ((by rw [hg];exact (below_size (by repeat (first|(with_reducible first|exact HB.out|apply eA|apply eN|apply eD|refine below_set ?_ GE150.out|refine below_set ?_ GE151.out|refine below_set ?_ GE152.out|refine below_set ?_ GE155.out)|exact HB.out))) : w.heap.size ≤ gb156));have n7_ := Aside0.mk ((by rw [hg];exact (below_size (by repeat (first|(with_reducible first|exact HB.out|apply eA|apply eN|apply eD|refine below_set ?_ GE150.out|refine below_set ?_ GE151.out|refine below_set ?_ GE152.out|refine below_set ?_ GE155.out)|exact HB.out))) : w.heap.size ≤ gb156));have n8_ := Aside0.mk ((by rw [hg];exact Nat.ne_of_lt (blk_lt (g := gb150) (o := .cells #[.slice A0_0 l0_0.length c0_0] 24 (0, 0)) (by (with_reducible repeat first|apply bN|apply bD|apply bA);refine blk_far ?_ NB150_155.out _;(with_reducible repeat first|apply bN|apply bD|apply bA);refine blk_far ?_ NB150_155.out _;(with_reducible repeat first|apply bN|apply bD|apply bA);exact BK150.out)) : gb150 ≠ gb156));have n9_ := Aside0.mk ((by rw [hg];exact Nat.ne_of_gt (blk_lt (g := gb150) (o := .cells #[.slice A0_0 l0_0.length c0_0] 24 (0, 0)) (by (with_reducible repeat first|apply bN|apply bD|apply bA);refine blk_far ?_ NB150_155.out _;(with_reducible repeat first|apply bN|apply bD|apply bA);refine blk_far ?_ NB150_155.out _;(with_reducible repeat first|apply bN|apply bD|apply bA);exact BK150.out)) : gb156 ≠ gb150));have n10_ := Aside0.mk ((by rw [hg];exact Nat.ne_of_lt (blk_lt (g := gb151) (o := .cells #[.slice none 0 0] 24 (0, 0)) (by (with_reducible repeat first|apply bN|apply bD|apply bA);refine blk_far ?_ NB151_155.out _;(with_reducible repeat first|apply bN|apply bD|apply bA);refine blk_far ?_ NB151_155.out _;(with_reducible repeat first|apply bN|apply bD|apply bA);exact BK151.out)) : gb151 ≠ gb156));have n11_ := Aside0.mk ((by rw [hg];exact Nat.ne_of_gt (blk_lt (g := gb151) (o := .cells #[.slice none 0 0] 24 (0, 0)) (by (with_reducible repeat first|apply bN|apply bD|apply bA);refine blk_far ?_ NB151_155.out _;(with_reducible repeat first|apply bN|apply bD|apply bA);refine blk_far ?_ NB151_155.out _;(with_reducible repeat first|apply bN|apply bD|apply bA);exact BK151.out)) : gb156 ≠ gb151));have n12_ := Aside0.mk ((by rw [hg];exact Nat.ne_of_lt (blk_lt (g := gb152) (o := .cells #[.int .i64 0, .int .i64 0] 27 (0, 0)) (by (with_reducible repeat first|apply bN|apply bD|apply bA);refine blk_far ?_ NB152_155.out _;(with_reducible repeat first|apply bN|apply bD|apply bA);refine blk_far ?_ NB152_155.out _;(with_reducible repeat first|apply bN|apply bD|apply bA);exact BK152.out)) : gb152 ≠ gb156));have n13_ := Aside0.mk ((by rw [hg];exact Nat.ne_of_gt (blk_lt (g := gb152) (o := .cells #[.int .i64 0, .int .i64 0] 27 (0, 0)) (by (with_reducible repeat first|apply bN|apply bD|apply bA);refine blk_far ?_ NB152_155.out _;(with_reducible repeat first|apply bN|apply bD|apply bA);refine blk_far ?_ NB152_155.out _;(with_reducible repeat first|apply bN|apply bD|apply bA);exact BK152.out)) : gb156 ≠ gb152));have n14_ := Aside0.mk ((by rw [hg];exact Nat.ne_of_lt (blk_lt (g := gb155) (o := .cells #[.int .i64 t153, .int .i64 t154] 27 (0, 0)) (by (with_reducible repeat first|apply bN|apply bD|apply bA);refine blk_put (cs := #[.int .i64 t153, .int .i64 0]) ?_ 1 _ rfl;(with_reducible repeat first|apply bN|apply bD|apply bA);refine blk_put (cs := #[.int .i64 0, .int .i64 0]) ?_ 0 _ rfl;(with_reducible repeat first|apply bN|apply bD|apply bA);exact BK155.out)) : gb155 ≠ gb156));have n15_ := Aside0.mk ((by rw [hg];exact Nat.ne_of_gt (blk_lt (g := gb155) (o := .cells #[.int .i64 t153, .int .i64 t154] 27 (0, 0)) (by (with_reducible repeat first|apply bN|apply bD|apply bA);refine blk_put (cs := #[.int .i64 t153, .int .i64 0]) ?_ 1 _ rfl;(with_reducible repeat first|apply bN|apply bD|apply bA);refine blk_put (cs := #[.int .i64 0, .int .i64 0]) ?_ 0 _ rfl;(with_reducible repeat first|apply bN|apply bD|apply bA);exact BK155.out)) : gb156 ≠ gb155));clear BK150;clear BK151;clear BK152;clear BK155;clear HB;have BK150 := n0_;have BK151 := n1_;have BK152 := n2_;have BK155 := n3_;have HB := n4_;have BK156 := n5_;have GW156 := n6_;have GE156 := n7_;have NB150_156 := n8_;have NB156_150 := n9_;have NB151_156 := n10_;have NB156_151 := n11_;have NB152_156 := n12_;have NB156_152 := n13_;have NB155_156 := n14_;have NB156_155 := n15_;clear n0_ n1_ n2_ n3_ n4_ n5_ n6_ n7_ n8_ n9_ n10_ n11_ n12_ n13_ n14_ n15_;clear hb hbox hg;have hnb34 := NB150_156.out;have hnc34 := NB156_150.out;have hcz35_0 : w33.cell? ⟨gb150, 0, none⟩ = some (.slice A0_0 l0_0.length c0_0) := (blk_cell BK150.out 0).trans rfl;have hfz35_0 := blk_frozen BK150.out 0))
    go_loopg [6, 19] k (fun kq v6 v19 w' => ∃ (x6_1 : Int) (x19_1 : Int) (x157000_1 : List (S47)) (u157000 : Value), v6 = .int .i64 x6_1 ∧ v19 = .int .i64 x19_1 ∧ Aside0 (textpatch_Invert.l0 kq x6_1 l0_0 (l0_0.length : Int) x19_1 x157000_1 = some (r1, r2, r3)) ∧ Aside0 (kq ≤ k) ∧ Aside0 (Kd.S k47 47 w' w.heap.size (fun k_ => (w.heap.size ≤ k_)) u157000 x157000_1) ∧ Aside0 (w'.heap[gb150]? = some (.cells #[(.slice A0_0 l0_0.length c0_0)] 24 (0, 0))) ∧ Aside0 (w'.heap[gb151]? = some (.cells #[(.slice none 0 0)] 24 (0, 0))) ∧ Aside0 (w'.heap[gb152]? = some (.cells #[.int .i64 0, .int .i64 0] 27 (0, 0))) ∧ Aside0 (w'.heap[gb155]? = some (.cells #[.int .i64 t153, .int .i64 t154] 27 (0, 0))) ∧ Aside0 (w'.heap[gb156]? = some (.cells #[u157000] 24 (0, 0))) ∧ Aside0 (Below w.heap.size w w'))
    case atStart => exact ⟨(0), (0), (([] : List (S47))), (.slice none 0 0), (by first|rfl|(simp;done)|(simp [*];done)), (by first|rfl|(simp;done)|(simp [*];done)), H', ⟨Nat.le_refl _⟩, ⟨by first|exact Kd.S_nil _ _ _ _ _|exact Kd.N_nil _ _ _ _ _|exact Kd.V_nil _ _ _ _ _|exact Kd.Q_nil _ _ _ _ _|exact Kd.R_nil _ _ _ _ _⟩, ⟨by (with_reducible repeat first|apply bN|apply bD|apply bA);exact BK150.out⟩, ⟨by (with_reducible repeat first|apply bN|apply bD|apply bA);exact BK151.out⟩, ⟨by (with_reducible repeat first|apply bN|apply bD|apply bA);exact BK152.out⟩, ⟨by (with_reducible repeat first|apply bN|apply bD|apply bA);exact BK155.out⟩, ⟨by (with_reducible repeat first|apply bN|apply bD|apply bA);exact BK156.out⟩, ⟨by repeat (first|(with_reducible first|exact HB.out|apply eA|apply eN|apply eD|refine below_set ?_ GE150.out|refine below_set ?_ GE151.out|refine below_set ?_ GE152.out|refine below_set ?_ GE155.out|refine below_set ?_ GE156.out)|exact HB.out)⟩⟩
    case round =>
      clear H'
      try clear c1
      try clear c2
      try clear p2
      try clear c3
      try clear c3b0
      try clear c7
      try clear c8
      try clear c12
      try clear c13
      try clear c14
      try clear c17
      try clear c19
      try clear c24
      try clear c25
      try clear c29
      try clear c30
      try clear c31
      try clear c34
      try clear hcz15_0
      try clear hcz15_1
      try clear hcz26_0
      try clear hcz32_0
      try clear hcz32_1
      try clear hcz35_0
      try clear hcz9_0
      try clear hfz15_0
      try clear hfz15_1
      try clear hfz26_0
      try clear hfz32_0
      try clear hfz32_1
      try clear hfz35_0
      try clear hfz9_0
      obtain ⟨x6_1, x19_1, x157000_1, u157000, rfl, rfl, HA, HK1, HO_157000, BK150, BK151, BK152, BK155, BK156, HB⟩ := hrel
      cases gk with
      | zero => exact absurd HA.out (by simp [textpatch_Invert.l0])
      | succ k1 =>
        have H := HA.out
        clear HA
        simp only [textpatch_Invert.l0] at H
        by_cases c36 : x19_1 < (l0_0.length : Int)
        · rw [if_pos c36] at H
          have c36b0 : decide (x19_1 < (l0_0.length : Int)) = true := decide_eq_true c36
          clear c36
          by_cases c37 : 0 ≤ x19_1
          · rw [if_pos c37] at H
            have c37b0 : decide (0 ≤ x19_1) = true := decide_eq_true c37
            clear c37
            by_cases c38 : x19_1 < (l0_0.length : Int)
            · rw [if_pos c38] at H
              have c38b0 : decide (x19_1 < (l0_0.length : Int)) = true := decide_eq_true c38
              clear c38
              replace H := Option.bind_eq_some_iff.mp H
              obtain ⟨t159, A390, H⟩ := H
              replace H : ((slices_Clone_string_string.f ((rd_T47 l0_0 x19_1).f1)).bind fun t162 => (if x157000_1.length < 2513169434916 then (textpatch_Invert.l0 k1 (wrap64 (x6_1 + (wrap64 ((((rd_T47 l0_0 x19_1).f2).length : Int) - (((rd_T47 l0_0 x19_1).f1).length : Int))))) l0_0 (l0_0.length : Int) (wrap64 (x19_1 + 1)) (x157000_1 ++ [(⟨wrap64 (((rd_T47 l0_0 x19_1).f0) + x6_1), t159, t162⟩ : S47)])) else (none))) = some (r1, r2, r3) := H
              have A39 := Aside0.mk A390
              clear A390
              replace H := Option.bind_eq_some_iff.mp H
              obtain ⟨t162, A400, H⟩ := H
              replace H : (if x157000_1.length < 2513169434916 then (textpatch_Invert.l0 k1 (wrap64 (x6_1 + (wrap64 ((((rd_T47 l0_0 x19_1).f2).length : Int) - (((rd_T47 l0_0 x19_1).f1).length : Int))))) l0_0 (l0_0.length : Int) (wrap64 (x19_1 + 1)) (x157000_1 ++ [(⟨wrap64 (((rd_T47 l0_0 x19_1).f0) + x6_1), t159, t162⟩ : S47)])) else (none)) = some (r1, r2, r3) := H
              have A40 := Aside0.mk A400
              clear A400
              by_cases c41 : x157000_1.length < 2513169434916
              · rw [if_pos c41] at H
                have LMc41 := Aside0.mk c41
                clear c41
                obtain ⟨y165, hy165⟩ : ∃ y_ : List (S47), y_ = (x157000_1 ++ [(⟨wrap64 (((rd_T47 l0_0 x19_1).f0) + x6_1), t159, t162⟩ : S47)]) := ⟨_, rfl⟩
                replace H : (textpatch_Invert.l0 k1 (wrap64 (x6_1 + (wrap64 ((((rd_T47 l0_0 x19_1).f2).length : Int) - (((rd_T47 l0_0 x19_1).f1).length : Int))))) l0_0 (l0_0.length : Int) (wrap64 (x19_1 + 1)) y165) = some (r1, r2, r3) := by first|(rw [hy165];with_reducible exact H)|(have H2_ := (Option.bind_some _ _).symm.trans H;rw [hy165];with_reducible exact H2_)|(have H2_ := (Option.bind_some _ _).symm.trans H;with_reducible exact H2_)|with_reducible exact H|(rw [hy165];exact H)|exact H
                have Ny165 := Aside0.mk hy165
                clear hy165
                have H' := Aside0.mk H
                clear H
                have p157 : 0 ≤ (x19_1 : Int) := of_decide_eq_true (by first|(with_reducible assumption)|assumption)
                have q157 : x19_1 < (l0_0.length : Int) := of_decide_eq_true (by first|(with_reducible assumption)|assumption)
                obtain ⟨ad157, A157_1, c157_1, A157_2, c157_2, e157, hx157_0, hx157_1, hx157_2, hl157_1, hi157_1, hl157_2, hi157_2⟩ := at_T47 HR0_0.out x19_1 p157 q157
                cases e157
                replace hx157_0 := (HB.out.cell (World.block_lt_of_cell? w _ hx157_0)).trans hx157_0
                replace hx157_1 := (HB.out.cell (World.block_lt_of_cell? w _ hx157_1)).trans hx157_1
                replace hx157_2 := (HB.out.cell (World.block_lt_of_cell? w _ hx157_2)).trans hx157_2
                have HR157_1 := Aside0.mk hi157_1
                have HC157_1 := Aside0.mk hl157_1
                clear hi157_1 hl157_1
                have HR157_2 := Aside0.mk hi157_2
                have HC157_2 := Aside0.mk hl157_2
                clear hi157_2 hl157_2
                replace p157 := eq_true p157
                replace q157 := eq_true q157
                try go_wp2_with (first|((with_reducible refine gate_dst (N := 8) rfl ?_);refine box_event ?hg (N := 8) ?hd (cs := #[.int .i64 0, .slice none 0 0, .slice none 0 0]) (t := 47) ?hr ?_;(case hd => rfl);(case hg => rfl);(case hr => first|(go_simp;done)|(go_simp;rfl));intro gb158 hg w42 hbox hb;have n0_ := Aside0.mk (Kd.S_below (Kd.S_elderB (by (with_reducible repeat (first|apply Kd.S_alloc|apply Kd.S_drewN|apply Kd.S_drew));exact HO_157000.out) gb158 (Nat.le_of_eq hg.symm)) hb);have n1_ := Aside0.mk (blk_below (g := gb150) (o := .cells #[.slice (some ad157) l0_0.length c0_0] 24 (0, 0)) (by (with_reducible repeat first|apply bN|apply bD|apply bA);exact BK150.out) hb);have n2_ := Aside0.mk (blk_below (g := gb151) (o := .cells #[.slice none 0 0] 24 (0, 0)) (by (with_reducible repeat first|apply bN|apply bD|apply bA);exact BK151.out) hb);have n3_ := Aside0.mk (blk_below (g := gb152) (o := .cells #[.int .i64 0, .int .i64 0] 27 (0, 0)) (by (with_reducible repeat first|apply bN|apply bD|apply bA);exact BK152.out) hb);have n4_ := Aside0.mk (blk_below (g := gb155) (o := .cells #[.int .i64 t153, .int .i64 t154] 27 (0, 0)) (by (with_reducible repeat first|apply bN|apply bD|apply bA);exact BK155.out) hb);have n5_ := Aside0.mk (blk_below (g := gb156) (o := .cells #[u157000] 24 (0, 0)) (by (with_reducible repeat first|apply bN|apply bD|apply bA);exact BK156.out) hb);have n6_ := Aside0.mk (below_step (by repeat (first|(with_reducible first|exact HB.out|apply eA|apply eN|apply eD|refine below_set ?_ GE150.out|refine below_set ?_ GE151.out|refine below_set ?_ GE152.out|refine below_set ?_ GE155.out|refine below_set ?_ GE156.out)|exact HB.out)) hb);have n7_ := Aside0.mk (hbox);have n8_ := Aside0.mk ((by rw [hg];exact (below_size (by repeat (first|(with_reducible first|exact HB.out|apply eA|apply eN|apply eD|refine below_set ?_ GE150.out|refine below_set ?_ GE151.out|refine below_set ?_ GE152.out|refine below_set ?_ GE155.out|refine below_set ?_ GE156.out)|exact HB.out))) : w.heap.size ≤ gb158));have n9_ := Aside0.mk ((by rw [hg];exact (below_size (by repeat (first|(with_reducible first|exact HB.out|apply eA|apply eN|apply eD|refine below_set ?_ GE150.out|refine below_set ?_ GE151.out|refine below_set ?_ GE152.out|refine below_set ?_ GE155.out|refine below_set ?_ GE156.out)|exact HB.out))) : w.heap.size ≤ gb158));have n10_ := Aside0.mk ((by rw [hg];exact Nat.ne_of_lt (blk_lt (g := gb150) (o := .cells #[.slice (some ad157) l0_0.length c0_0] 24 (0, 0)) (by (with_reducible repeat first|apply bN|apply bD|apply bA);exact BK150.out)) : gb150 ≠ gb158));have n11_ := Aside0.mk ((by rw [hg];exact Nat.ne_of_gt (blk_lt (g := gb150) (o := .cells #[.slice (some ad157) l0_0.length c0_0] 24 (0, 0)) (by (with_reducible repeat first|apply bN|apply bD|apply bA);exact BK150.out)) : gb158 ≠ gb150));have n12_ := Aside0.mk ((by rw [hg];exact Nat.ne_of_lt (blk_lt (g := gb151) (o := .cells #[.slice none 0 0] 24 (0, 0)) (by (with_reducible repeat first|apply bN|apply bD|apply bA);exact BK151.out)) : gb151 ≠ gb158));have n13_ := Aside0.mk ((by rw [hg];exact Nat.ne_of_gt (blk_lt (g := gb151) (o := .cells #[.slice none 0 0] 24 (0, 0)) (by (with_reducible repeat first|apply bN|apply bD|apply bA);exact BK151.out)) : gb158 ≠ gb151));have n14_ := Aside0.mk ((by rw [hg];exact Nat.ne_of_lt (blk_lt (g := gb152) (o := .cells #[.int .i64 0, .int .i64 0] 27 (0, 0)) (by (with_reducible repeat first|apply bN|apply bD|apply bA);exact BK152.out)) : gb152 ≠ gb158));have n15_ := Aside0.mk ((by rw [hg];exact Nat.ne_of_gt (blk_lt (g := gb152) (o := .cells #[.int .i64 0, .int .i64 0] 27 (0, 0)) (by (with_reducible repeat first|apply bN|apply bD|apply bA);exact BK152.out)) : gb158 ≠ gb152));have n16_ := Aside0.mk ((by rw [hg];exact Nat.ne_of_lt (blk_lt (g := gb155) (o := .cells #[.int .i64 t153, .int .i64 t154] 27 (0, 0)) (by (with_reducible repeat first|apply bN|apply bD|apply bA);exact BK155.out)) : gb155 ≠ gb158));have n17_ := Aside0.mk ((by rw [hg];exact Nat.ne_of_gt (blk_lt (g := gb155) (o := .cells #[.int .i64 t153, .int .i64 t154] 27 (0, 0)) (by (with_reducible repeat first|apply bN|apply bD|apply bA);exact BK155.out)) : gb158 ≠ gb155));have n18_ := Aside0.mk ((by rw [hg];exact Nat.ne_of_lt (blk_lt (g := gb156) (o := .cells #[u157000] 24 (0, 0)) (by (with_reducible repeat first|apply bN|apply bD|apply bA);exact BK156.out)) : gb156 ≠ gb158));have n19_ := Aside0.mk ((by rw [hg];exact Nat.ne_of_gt (blk_lt (g := gb156) (o := .cells #[u157000] 24 (0, 0)) (by (with_reducible repeat first|apply bN|apply bD|apply bA);exact BK156.out)) : gb158 ≠ gb156));clear HO_157000;clear BK150;clear BK151;clear BK152;clear BK155;clear BK156;clear HB;have HO_157000 := n0_;have BK150 := n1_;have BK151 := n2_;have BK152 := n3_;have BK155 := n4_;have BK156 := n5_;have HB := n6_;have BK158 := n7_;have GW158 := n8_;have GE158 := n9_;have NB150_158 := n10_;have NB158_150 := n11_;have NB151_158 := n12_;have NB158_151 := n13_;have NB152_158 := n14_;have NB158_152 := n15_;have NB155_158 := n16_;have NB158_155 := n17_;have NB156_158 := n18_;have NB158_156 := n19_;clear n0_ n1_ n2_ n3_ n4_ n5_ n6_ n7_ n8_ n9_ n10_ n11_ n12_ n13_ n14_ n15_ n16_ n17_ n18_ n19_;clear hb hbox hg;have hnb43 := NB158_150.out;have hnc43 := NB150_158.out;have hnb44 := NB158_151.out;have hnc44 := NB151_158.out;have hnb45 := NB158_152.out;have hnc45 := NB152_158.out;have hnb46 := NB158_155.out;have hnc46 := NB155_158.out;have hnb47 := NB158_156.out;have hnc47 := NB156_158.out;have hcz48_0 : w42.cell? ⟨gb158, 0, none⟩ = some (.int .i64 0) := (blk_cell BK158.out 0).trans rfl;have hcz48_1 : w42.cell? ⟨gb158, 1, none⟩ = some (.slice none 0 0) := (blk_cell BK158.out 1).trans rfl;have hcz48_2 : w42.cell? ⟨gb158, 2, none⟩ = some (.slice none 0 0) := (blk_cell BK158.out 2).trans rfl;have hfz48_0 := blk_frozen BK158.out 0;have hfz48_1 := blk_frozen BK158.out 1;have hfz48_2 := blk_frozen BK158.out 2))
                have n0_ : Aside0 (Kd.S k47 47 (((w42.setCell ⟨gb158, 0, none⟩ (.int .i64 ((rd_T47 l0_0 x19_1).f0))).setCell ⟨gb158, 1, none⟩ (.slice A157_1 ((rd_T47 l0_0 x19_1).f1).length c157_1)).setCell ⟨gb158, 2, none⟩ (.slice A157_2 ((rd_T47 l0_0 x19_1).f2).length c157_2)) w.heap.size (fun k_ => (w.heap.size ≤ k_) ∧ k_ ≠ gb158) u157000 x157000_1) := ⟨by (with_reducible repeat (first|apply Kd.S_alloc|apply Kd.S_drewN|apply Kd.S_drew));exact Kd.S_mono (Kd.S_far (p := ⟨gb158, 2, none⟩) (Kd.S_far (p := ⟨gb158, 1, none⟩) (Kd.S_far (p := ⟨gb158, 0, none⟩) (Kd.S_mono HO_157000.out (fun k_ hk => (⟨hk, hk.2⟩ : _ ∧ k_ ≠ gb158))) (fun _ hk => hk.2) (.int .i64 ((rd_T47 l0_0 x19_1).f0))) (fun _ hk => hk.2) (.slice A157_1 ((rd_T47 l0_0 x19_1).f1).length c157_1)) (fun _ hk => hk.2) (.slice A157_2 ((rd_T47 l0_0 x19_1).f2).length c157_2)) (fun _ hk => ⟨hk.1.1, hk.1.2⟩)⟩
                have n1_ : Aside0 ((((w42.setCell ⟨gb158, 0, none⟩ (.int .i64 ((rd_T47 l0_0 x19_1).f0))).setCell ⟨gb158, 1, none⟩ (.slice A157_1 ((rd_T47 l0_0 x19_1).f1).length c157_1)).setCell ⟨gb158, 2, none⟩ (.slice A157_2 ((rd_T47 l0_0 x19_1).f2).length c157_2)).heap[gb150]? = some (.cells #[.slice (some ad157) l0_0.length c0_0] 24 (0, 0))) := ⟨by (with_reducible repeat first|apply bN|apply bD|apply bA);refine blk_far ?_ NB150_158.out _;(with_reducible repeat first|apply bN|apply bD|apply bA);refine blk_far ?_ NB150_158.out _;(with_reducible repeat first|apply bN|apply bD|apply bA);refine blk_far ?_ NB150_158.out _;(with_reducible repeat first|apply bN|apply bD|apply bA);exact BK150.out⟩
                have n2_ : Aside0 ((((w42.setCell ⟨gb158, 0, none⟩ (.int .i64 ((rd_T47 l0_0 x19_1).f0))).setCell ⟨gb158, 1, none⟩ (.slice A157_1 ((rd_T47 l0_0 x19_1).f1).length c157_1)).setCell ⟨gb158, 2, none⟩ (.slice A157_2 ((rd_T47 l0_0 x19_1).f2).length c157_2)).heap[gb151]? = some (.cells #[.slice none 0 0] 24 (0, 0))) := ⟨by (with_reducible repeat first|apply bN|apply bD|apply bA);refine blk_far ?_ NB151_158.out _;(with_reducible repeat first|apply bN|apply bD|apply bA);refine blk_far ?_ NB151_158.out _;(with_reducible repeat first|apply bN|apply bD|apply bA);refine blk_far ?_ NB151_158.out _;(with_reducible repeat first|apply bN|apply bD|apply bA);exact BK151.out⟩
                have n3_ : Aside0 ((((w42.setCell ⟨gb158, 0, none⟩ (.int .i64 ((rd_T47 l0_0 x19_1).f0))).setCell ⟨gb158, 1, none⟩ (.slice A157_1 ((rd_T47 l0_0 x19_1).f1).length c157_1)).setCell ⟨gb158, 2, none⟩ (.slice A157_2 ((rd_T47 l0_0 x19_1).f2).length c157_2)).heap[gb152]? = some (.cells #[.int .i64 0, .int .i64 0] 27 (0, 0))) := ⟨by (with_reducible repeat first|apply bN|apply bD|apply bA);refine blk_far ?_ NB152_158.out _;(with_reducible repeat first|apply bN|apply bD|apply bA);refine blk_far ?_ NB152_158.out _;(with_reducible repeat first|apply bN|apply bD|apply bA);refine blk_far ?_ NB152_158.out _;(with_reducible repeat first|apply bN|apply bD|apply bA);exact BK152.out⟩
                have n4_ : Aside0 ((((w42.setCell ⟨gb158, 0, none⟩ (.int .i64 ((rd_T47 l0_0 x19_1).f0))).setCell ⟨gb158, 1, none⟩ (.slice A157_1 ((rd_T47 l0_0 x19_1).f1).length c157_1)).setCell ⟨gb158, 2, none⟩ (.slice A157_2 ((rd_T47 l0_0 x19_1).f2).length c157_2)).heap[gb155]? = some (.cells #[.int .i64 t153, .int .i64 t154] 27 (0, 0))) := ⟨by (with_reducible repeat first|apply bN|apply bD|apply bA);refine blk_far ?_ NB155_158.out _;(with_reducible repeat first|apply bN|apply bD|apply bA);refine blk_far ?_ NB155_158.out _;(with_reducible repeat first|apply bN|apply bD|apply bA);refine blk_far ?_ NB155_158.out _;(with_reducible repeat first|apply bN|apply bD|apply bA);exact BK155.out⟩
                have n5_ : Aside0 ((((w42.setCell ⟨gb158, 0, none⟩ (.int .i64 ((rd_T47 l0_0 x19_1).f0))).setCell ⟨gb158, 1, none⟩ (.slice A157_1 ((rd_T47 l0_0 x19_1).f1).length c157_1)).setCell ⟨gb158, 2, none⟩ (.slice A157_2 ((rd_T47 l0_0 x19_1).f2).length c157_2)).heap[gb156]? = some (.cells #[u157000] 24 (0, 0))) := ⟨by (with_reducible repeat first|apply bN|apply bD|apply bA);refine blk_far ?_ NB156_158.out _;(with_reducible repeat first|apply bN|apply bD|apply bA);refine blk_far ?_ NB156_158.out _;(with_reducible repeat first|apply bN|apply bD|apply bA);refine blk_far ?_ NB156_158.out _;(with_reducible repeat first|apply bN|apply bD|apply bA);exact BK156.out⟩
                have n6_ : Aside0 ((((w42.setCell ⟨gb158, 0, none⟩ (.int .i64 ((rd_T47 l0_0 x19_1).f0))).setCell ⟨gb158, 1, none⟩ (.slice A157_1 ((rd_T47 l0_0 x19_1).f1).length c157_1)).setCell ⟨gb158, 2, none⟩ (.slice A157_2 ((rd_T47 l0_0 x19_1).f2).length c157_2)).heap[gb158]? = some (.cells #[.int .i64 ((rd_T47 l0_0 x19_1).f0), .slice A157_1 ((rd_T47 l0_0 x19_1).f1).length c157_1, .slice A157_2 ((rd_T47 l0_0 x19_1).f2).length c157_2] 47 (0, 0))) := ⟨by (with_reducible repeat first|apply bN|apply bD|apply bA);refine blk_put (cs := #[.int .i64 ((rd_T47 l0_0 x19_1).f0), .slice A157_1 ((rd_T47 l0_0 x19_1).f1).length c157_1, .slice none 0 0]) ?_ 2 _ rfl;(with_reducible repeat first|apply bN|apply bD|apply bA);refine blk_put (cs := #[.int .i64 ((rd_T47 l0_0 x19_1).f0), .slice none 0 0, .slice none 0 0]) ?_ 1 _ rfl;(with_reducible repeat first|apply bN|apply bD|apply bA);refine blk_put (cs := #[.int .i64 0, .slice none 0 0, .slice none 0 0]) ?_ 0 _ rfl;(with_reducible repeat first|apply bN|apply bD|apply bA);exact BK158.out⟩
                have n7_ : Aside0 (Below w.heap.size w (((w42.setCell ⟨gb158, 0, none⟩ (.int .i64 ((rd_T47 l0_0 x19_1).f0))).setCell ⟨gb158, 1, none⟩ (.slice A157_1 ((rd_T47 l0_0 x19_1).f1).length c157_1)).setCell ⟨gb158, 2, none⟩ (.slice A157_2 ((rd_T47 l0_0 x19_1).f2).length c157_2))) := ⟨by repeat (first|(with_reducible first|exact HB.out|apply eA|apply eN|apply eD|refine below_set ?_ GE150.out|refine below_set ?_ GE151.out|refine below_set ?_ GE152.out|refine below_set ?_ GE155.out|refine below_set ?_ GE156.out|refine below_set ?_ GE158.out)|exact HB.out)⟩
                (try clear HO_157000)
                (try clear BK150)
                (try clear BK151)
                (try clear BK152)
                (try clear BK155)
                (try clear BK156)
                (try clear BK158)
                (try clear HB)
                generalize (((w42.setCell ⟨gb158, 0, none⟩ (.int .i64 ((rd_T47 l0_0 x19_1).f0))).setCell ⟨gb158, 1, none⟩ (.slice A157_1 ((rd_T47 l0_0 x19_1).f1).length c157_1)).setCell ⟨gb158, 2, none⟩ (.slice A157_2 ((rd_T47 l0_0 x19_1).f2).length c157_2)) = w49 at n0_ n1_ n2_ n3_ n4_ n5_ n6_ n7_ ⊢
                have HO_157000 := n0_
                have BK150 := n1_
                have BK151 := n2_
                have BK152 := n3_
                have BK155 := n4_
                have BK156 := n5_
                have BK158 := n6_
                have HB := n7_
                clear n0_ n1_ n2_ n3_ n4_ n5_ n6_ n7_
                have n0_ := Aside0.mk (Kd.S_drew HO_157000.out)
                have n1_ := Aside0.mk (blk_drew BK150.out)
                have n2_ := Aside0.mk (blk_drew BK151.out)
                have n3_ := Aside0.mk (blk_drew BK152.out)
                have n4_ := Aside0.mk (blk_drew BK155.out)
                have n5_ := Aside0.mk (blk_drew BK156.out)
                have n6_ := Aside0.mk (blk_drew BK158.out)
                have n7_ := Aside0.mk (below_drew1 HB.out)
                clear HO_157000
                clear BK150
                clear BK151
                clear BK152
                clear BK155
                clear BK156
                clear BK158
                clear HB
                have HO_157000 := n0_
                have BK150 := n1_
                have BK151 := n2_
                have BK152 := n3_
                have BK155 := n4_
                have BK156 := n5_
                have BK158 := n6_
                have HB := n7_
                clear n0_ n1_ n2_ n3_ n4_ n5_ n6_ n7_
                refine start_ (n := 17) (S := fun w' => w'.cell? ⟨gb156, 0, none⟩ = some (u157000) ∧ w'.cell? ⟨gb158, 0, none⟩ = some (.int .i64 ((rd_T47 l0_0 x19_1).f0)) ∧ w'.cell? ⟨gb158, 1, none⟩ = some (.slice A157_1 ((rd_T47 l0_0 x19_1).f1).length c157_1) ∧ w'.cell? ⟨gb158, 2, none⟩ = some (.slice A157_2 ((rd_T47 l0_0 x19_1).f2).length c157_2)) (ds := [16]) #[false, false, false, false, false, false, false, false, false, false, false, false, false, false, false, false, false] (by kernel_rfl) rfl rfl ⟨(blk_cell BK156.out 0).trans rfl, (blk_cell BK158.out 0).trans rfl, (blk_cell BK158.out 1).trans rfl, (blk_cell BK158.out 2).trans rfl⟩ (fun hHeld => ?_);refine with_tabW textpatch_Invert.tab9 textpatch_Invert.bits9 (fun HT_ HW_ => ?_)
                generalize w49.drew = w50 at HO_157000 BK150 BK151 BK152 BK155 BK156 BK158 HB hHeld ⊢
                refine pure_ (i := 0) (N := some 23) (v := ?_) (a' := ?_) #[true, false, false, false, false, false, false, false, false, false, false, false, false, false, false, false, false] rfl rfl (any_of HT_.out (by kernel_rfl)) (fun _ _ _ h => h) (Or.inl ⟨by rfl, ?_⟩) ?_ ?_
                rotate_left
                · intro w'
                  go_simp
                  with_reducible rfl
                rotate_left
                · simp only [Act.put, sA, sB, sC, i64_w, i32_w]
                  rfl
                refine pure_ (i := 2) (N := some 25) (v := ?_) (a' := ?_) #[true, false, true, false, false, false, false, false, false, false, false, false, false, false, false, false, false] rfl rfl (any_of HT_.out (by kernel_rfl)) (fun _ _ _ h => h) (Or.inl ⟨by rfl, ?_⟩) ?_ ?_
                rotate_left
                · intro w'
                  go_simp
                  with_reducible rfl
                rotate_left
                · simp only [Act.put, sA, sB, sC, i64_w, i32_w]
                  rfl
                refine pure_ (i := 4) (N := some 27) (v := ?_) (a' := ?_) #[true, false, true, false, true, false, false, false, false, false, false, false, false, false, false, false, false] rfl rfl (any_of HT_.out (by kernel_rfl)) (fun _ _ _ h => h) (Or.inl ⟨by rfl, ?_⟩) ?_ ?_
                rotate_left
                · intro w'
                  go_simp
                  with_reducible rfl
                rotate_left
                · simp only [Act.put, sA, sB, sC, i64_w, i32_w]
                  rfl
                refine pure_ (i := 6) (N := some 29) (v := ?_) (a' := ?_) #[true, false, true, false, true, false, true, false, false, false, false, false, false, false, false, false, false] rfl rfl (any_of HT_.out (by kernel_rfl)) (fun _ _ _ h => h) (Or.inl ⟨by rfl, ?_⟩) ?_ ?_
                rotate_left
                · intro w'
                  go_simp
                  with_reducible rfl
                rotate_left
                · simp only [Act.put, sA, sB, sC, i64_w, i32_w]
                  rfl
                refine pure_ (i := 9) (N := some 32) (v := ?_) (a' := ?_) #[true, false, true, false, true, false, true, false, false, true, false, false, false, false, false, false, false] rfl rfl (any_of HT_.out (by kernel_rfl)) (fun _ _ _ h => h) (Or.inl ⟨by rfl, ?_⟩) ?_ ?_
                rotate_left
                · intro w'
                  go_simp
                  with_reducible rfl
                rotate_left
                · simp only [Act.put, sA, sB, sC, i64_w, i32_w]
                  rfl
                refine take_ (i := 1) (N := some 24) (v := ?_) (a' := ?_) #[true, true, true, false, true, false, true, false, false, true, false, false, false, false, false, false, false] rfl rfl (take_ofW HT_.out HW_.out (by kernel_rfl)) (fun _ _ _ h => h) (Or.inl ⟨by rfl, ?_⟩) hHeld ?_ ?_
                rotate_left
                · rintro w' ⟨s0, s1, s2, s3⟩
                  go_simp
                  with_reducible rfl
                rotate_left
                · simp only [Act.put, sA, sB, sC, i64_w, i32_w]
                  rfl
                refine take_ (i := 3) (N := some 26) (v := ?_) (a' := ?_) #[true, true, true, true, true, false, true, false, false, true, false, false, false, false, false, false, false] rfl rfl (take_ofW HT_.out HW_.out (by kernel_rfl)) (fun _ _ _ h => h) (Or.inl ⟨by rfl, ?_⟩) hHeld ?_ ?_
                rotate_left
                · rintro w' ⟨s0, s1, s2, s3⟩
                  go_simp
                  with_reducible rfl
                rotate_left
                · simp only [Act.put, sA, sB, sC, i64_w, i32_w]
                  rfl
                refine pure_ (i := 5) (N := some 28) (v := ?_) (a' := ?_) #[true, true, true, true, true, true, true, false, false, true, false, false, false, false, false, false, false] rfl rfl (any_of HT_.out (by kernel_rfl)) (fun _ _ _ h => h) (Or.inl ⟨by rfl, ?_⟩) ?_ ?_
                rotate_left
                · intro w'
                  go_simp
                  with_reducible rfl
                rotate_left
                · simp only [Act.put, sA, sB, sC, i64_w, i32_w]
                  rfl
                refine take_ (i := 7) (N := some 30) (v := ?_) (a' := ?_) #[true, true, true, true, true, true, true, true, false, true, false, false, false, false, false, false, false] rfl rfl (take_ofW HT_.out HW_.out (by kernel_rfl)) (fun _ _ _ h => h) (Or.inl ⟨by rfl, ?_⟩) hHeld ?_ ?_
                rotate_left
                · rintro w' ⟨s0, s1, s2, s3⟩
                  go_simp
                  with_reducible rfl
                rotate_left
                · simp only [Act.put, sA, sB, sC, i64_w, i32_w]
                  rfl
                refine take_ (i := 10) (N := some 33) (v := ?_) (a' := ?_) #[true, true, true, true, true, true, true, true, false, true, true, false, false, false, false, false, false] rfl rfl (take_ofW HT_.out HW_.out (by kernel_rfl)) (fun _ _ _ h => h) (Or.inl ⟨by rfl, ?_⟩) hHeld ?_ ?_
                rotate_left
                · rintro w' ⟨s0, s1, s2, s3⟩
                  go_simp
                  with_reducible rfl
                rotate_left
                · simp only [Act.put, sA, sB, sC, i64_w, i32_w]
                  rfl
                refine one_ (i := 8) (N := some 31) #[true, true, true, true, true, true, true, true, true, true, true, false, false, false, false, false, false] rfl rfl (one_of HT_.out (by kernel_rfl)) (by decide) (fun K hK => ?_)
                refine goes_ Try.func39 (by kernel_rfl) rfl #[.slice A157_2 ((rd_T47 l0_0 x19_1).f2).length c157_2] (by rfl) rfl rfl (by (try simp only [List.map_toArray, List.map_cons, List.map_nil]);first|done|rfl|(simp only [List.length_drop, List.length_take];rfl)) ?_
                with_reducible refine (slices_Clone_string_string.calls _ _ ((rd_T47 l0_0 x19_1).f2) t159 _ ?side1 ?side2 A39.out).mono ?_
                (case side1 => repeat (first|exact (Kd.C_below HR157_2.out HB.out)|(with_reducible refine Kd.C_alloc ?_ _)|(with_reducible refine Kd.C_drewN ?_ _)|(with_reducible refine Kd.C_drew ?_)))
                (case side2 => exact HC157_2.out)
                rintro e w51 ⟨v160, rfl, ho0, hb⟩
                refine ⟨_, rfl, ?_⟩
                have n0_ := Aside0.mk (Kd.S_elder' (by (with_reducible repeat (first|apply Kd.S_alloc|apply Kd.S_drewN|apply Kd.S_drew));exact HO_157000.out) (Kd.R_base ho0) hb)
                have n1_ := Aside0.mk (Kd.R_lower (Kd.R_newM (M := fun k_ => (w.heap.size ≤ k_)) ho0 (below_size (by repeat (first|(with_reducible first|exact HB.out|apply eA|apply eN|apply eD|refine below_set ?_ GE150.out|refine below_set ?_ GE151.out|refine below_set ?_ GE152.out|refine below_set ?_ GE155.out|refine below_set ?_ GE156.out|refine below_set ?_ GE158.out)|exact HB.out))) (fun k_ h_ => h_)) (below_size (by repeat (first|(with_reducible first|exact HB.out|apply eA|apply eN|apply eD|refine below_set ?_ GE150.out|refine below_set ?_ GE151.out|refine below_set ?_ GE152.out|refine below_set ?_ GE155.out|refine below_set ?_ GE156.out|refine below_set ?_ GE158.out)|exact HB.out))))
                have n2_ := Aside0.mk (blk_below (g := gb150) (o := .cells #[.slice (some ad157) l0_0.length c0_0] 24 (0, 0)) (by (with_reducible repeat first|apply bN|apply bD|apply bA);exact BK150.out) hb)
                have n3_ := Aside0.mk (blk_below (g := gb151) (o := .cells #[.slice none 0 0] 24 (0, 0)) (by (with_reducible repeat first|apply bN|apply bD|apply bA);exact BK151.out) hb)
                have n4_ := Aside0.mk (blk_below (g := gb152) (o := .cells #[.int .i64 0, .int .i64 0] 27 (0, 0)) (by (with_reducible repeat first|apply bN|apply bD|apply bA);exact BK152.out) hb)
                have n5_ := Aside0.mk (blk_below (g := gb155) (o := .cells #[.int .i64 t153, .int .i64 t154] 27 (0, 0)) (by (with_reducible repeat first|apply bN|apply bD|apply bA);exact BK155.out) hb)
                have n6_ := Aside0.mk (blk_below (g := gb156) (o := .cells #[u157000] 24 (0, 0)) (by (with_reducible repeat first|apply bN|apply bD|apply bA);exact BK156.out) hb)
                have n7_ := Aside0.mk (blk_below (g := gb158) (o := .cells #[.int .i64 ((rd_T47 l0_0 x19_1).f0), .slice A157_1 ((rd_T47 l0_0 x19_1).f1).length c157_1, .slice A157_2 ((rd_T47 l0_0 x19_1).f2).length c157_2] 47 (0, 0)) (by (with_reducible repeat first|apply bN|apply bD|apply bA);exact BK158.out) hb)
                have n8_ := Aside0.mk (below_step (by repeat (first|(with_reducible first|exact HB.out|apply eA|apply eN|apply eD|refine below_set ?_ GE150.out|refine below_set ?_ GE151.out|refine below_set ?_ GE152.out|refine below_set ?_ GE155.out|refine below_set ?_ GE156.out|refine below_set ?_ GE158.out)|exact HB.out)) hb)
                clear HO_157000
                clear BK150
                clear BK151
                clear BK152
                clear BK155
                clear BK156
                clear BK158
                clear HB
                have HO_157000 := n0_
                have HO161 := n1_
                have BK150 := n2_
                have BK151 := n3_
                have BK152 := n4_
                have BK155 := n5_
                have BK156 := n6_
                have BK158 := n7_
                have HB := n8_
                clear n0_ n1_ n2_ n3_ n4_ n5_ n6_ n7_ n8_
                (try clear hb)
                (try clear hb2)
                (try clear hk)
                (try clear hi)
                (try clear ho0)
                refine hK.out _ _ ⟨(blk_cell BK156.out 0).trans rfl, (blk_cell BK158.out 0).trans rfl, (blk_cell BK158.out 1).trans rfl, (blk_cell BK158.out 2).trans rfl⟩ (fun hHeld => ?_)
                clear hK K
                refine norm_ (a' := ?_) ?_ ?_
                rotate_left
                · show Act.put _ (some 31) _ = _
                  simp only [Act.put, sA, sB, sC, i64_w, i32_w]
                  rfl
                refine one_ (i := 11) (N := some 34) #[true, true, true, true, true, true, true, true, true, true, true, true, false, false, false, false, false] rfl rfl (one_of HT_.out (by kernel_rfl)) (by decide) (fun K hK => ?_)
                refine goes_ Try.func39 (by kernel_rfl) rfl #[.slice A157_1 ((rd_T47 l0_0 x19_1).f1).length c157_1] (by rfl) rfl rfl (by (try simp only [List.map_toArray, List.map_cons, List.map_nil]);first|done|rfl|(simp only [List.length_drop, List.length_take];rfl)) ?_
                with_reducible refine (slices_Clone_string_string.calls _ _ ((rd_T47 l0_0 x19_1).f1) t162 _ ?side1 ?side2 A40.out).mono ?_
                (case side1 => repeat (first|exact (Kd.C_below HR157_1.out HB.out)|(with_reducible refine Kd.C_alloc ?_ _)|(with_reducible refine Kd.C_drewN ?_ _)|(with_reducible refine Kd.C_drew ?_)))
                (case side2 => exact HC157_1.out)
                rintro e w52 ⟨v163, rfl, ho0, hb⟩
                refine ⟨_, rfl, ?_⟩
                have n0_ := Aside0.mk (Kd.S_elder' (by (with_reducible repeat (first|apply Kd.S_alloc|apply Kd.S_drewN|apply Kd.S_drew));exact HO_157000.out) (Kd.R_base ho0) hb)
                have n1_ := Aside0.mk (Kd.R_elder' (by (with_reducible repeat first|apply rA|apply rN|apply rD);exact HO161.out) (Kd.R_base ho0) hb)
                have n2_ := Aside0.mk (Kd.R_lower (Kd.R_new' (Kd.R_newM (M := fun k_ => (w.heap.size ≤ k_)) ho0 (below_size (by repeat (first|(with_reducible first|exact HB.out|apply eA|apply eN|apply eD|refine below_set ?_ GE150.out|refine below_set ?_ GE151.out|refine below_set ?_ GE152.out|refine below_set ?_ GE155.out|refine below_set ?_ GE156.out|refine below_set ?_ GE158.out)|exact HB.out))) (fun k_ h_ => h_)) (Kd.R_lt (by (with_reducible repeat first|apply rA|apply rN|apply rD);exact HO161.out))) (below_size (by repeat (first|(with_reducible first|exact HB.out|apply eA|apply eN|apply eD|refine below_set ?_ GE150.out|refine below_set ?_ GE151.out|refine below_set ?_ GE152.out|refine below_set ?_ GE155.out|refine below_set ?_ GE156.out|refine below_set ?_ GE158.out)|exact HB.out))))
                have n3_ := Aside0.mk (blk_below (g := gb150) (o := .cells #[.slice (some ad157) l0_0.length c0_0] 24 (0, 0)) (by (with_reducible repeat first|apply bN|apply bD|apply bA);exact BK150.out) hb)
                have n4_ := Aside0.mk (blk_below (g := gb151) (o := .cells #[.slice none 0 0] 24 (0, 0)) (by (with_reducible repeat first|apply bN|apply bD|apply bA);exact BK151.out) hb)
                have n5_ := Aside0.mk (blk_below (g := gb152) (o := .cells #[.int .i64 0, .int .i64 0] 27 (0, 0)) (by (with_reducible repeat first|apply bN|apply bD|apply bA);exact BK152.out) hb)
                have n6_ := Aside0.mk (blk_below (g := gb155) (o := .cells #[.int .i64 t153, .int .i64 t154] 27 (0, 0)) (by (with_reducible repeat first|apply bN|apply bD|apply bA);exact BK155.out) hb)
                have n7_ := Aside0.mk (blk_below (g := gb156) (o := .cells #[u157000] 24 (0, 0)) (by (with_reducible repeat first|apply bN|apply bD|apply bA);exact BK156.out) hb)
                have n8_ := Aside0.mk (blk_below (g := gb158) (o := .cells #[.int .i64 ((rd_T47 l0_0 x19_1).f0), .slice A157_1 ((rd_T47 l0_0 x19_1).f1).length c157_1, .slice A157_2 ((rd_T47 l0_0 x19_1).f2).length c157_2] 47 (0, 0)) (by (with_reducible repeat first|apply bN|apply bD|apply bA);exact BK158.out) hb)
                have n9_ := Aside0.mk (below_step (by repeat (first|(with_reducible first|exact HB.out|apply eA|apply eN|apply eD|refine below_set ?_ GE150.out|refine below_set ?_ GE151.out|refine below_set ?_ GE152.out|refine below_set ?_ GE155.out|refine below_set ?_ GE156.out|refine below_set ?_ GE158.out)|exact HB.out)) hb)
                clear HO_157000
                clear HO161
                clear BK150
                clear BK151
                clear BK152
                clear BK155
                clear BK156
                clear BK158
                clear HB
                have HO_157000 := n0_
                have HO161 := n1_
                have HO164 := n2_
                have BK150 := n3_
                have BK151 := n4_
                have BK152 := n5_
                have BK155 := n6_
                have BK156 := n7_
                have BK158 := n8_
                have HB := n9_
                clear n0_ n1_ n2_ n3_ n4_ n5_ n6_ n7_ n8_ n9_
                (try clear hb)
                (try clear hb2)
                (try clear hk)
                (try clear hi)
                (try clear ho0)
                obtain ⟨Ao53, co53, eo53⟩ := Kd.R_slice HO164.out
                (first|subst eo53|(injection eo53 with f1_ f2_ f3_;have f4_ := f1_.symm;have f5_ := f3_.symm;clear f1_ f2_ f3_;subst f4_;subst f5_))
                obtain ⟨Ao54, co54, eo54⟩ := Kd.R_slice HO161.out
                (first|subst eo54|(injection eo54 with f1_ f2_ f3_;have f4_ := f1_.symm;have f5_ := f3_.symm;clear f1_ f2_ f3_;subst f4_;subst f5_))
                refine hK.out _ _ ⟨(blk_cell BK156.out 0).trans rfl, (blk_cell BK158.out 0).trans rfl, (blk_cell BK158.out 1).trans rfl, (blk_cell BK158.out 2).trans rfl⟩ (fun hHeld => ?_)
                clear hK K
                refine norm_ (a' := ?_) ?_ ?_
                rotate_left
                · show Act.put _ (some 34) _ = _
                  simp only [Act.put, sA, sB, sC, i64_w, i32_w]
                  rfl
                refine pure_ (i := 12) (N := some 35) (v := ?_) (a' := ?_) #[true, true, true, true, true, true, true, true, true, true, true, true, true, false, false, false, false] rfl rfl (any_of HT_.out (by kernel_rfl)) (fun _ _ _ h => h) (Or.inl ⟨by rfl, ?_⟩) ?_ ?_
                rotate_left
                · intro w'
                  go_simp
                  with_reducible rfl
                rotate_left
                · simp only [Act.put, sA, sB, sC, i64_w, i32_w]
                  rfl
                refine one_ (i := 13) (N := some 36) #[true, true, true, true, true, true, true, true, true, true, true, true, true, true, false, false, false] rfl rfl (one_of HT_.out (by kernel_rfl)) (by decide) (fun K hK => ?_)
                refine value_ (w1 := ?_) (v := ?_) (by rfl) rfl ?_ ?_
                rotate_left 2
                · go_simp
                  constructor
                  · rfl
                  · rfl
                refine hK.out _ _ ⟨(blk_cell (blk_alloc BK156.out _) 0).trans rfl, (blk_cell (blk_alloc BK158.out _) 0).trans rfl, (blk_cell (blk_alloc BK158.out _) 1).trans rfl, (blk_cell (blk_alloc BK158.out _) 2).trans rfl⟩ (fun hHeld => ?_)
                clear hK K
                refine norm_ (a' := ?_) ?_ ?_
                rotate_left
                · show Act.put _ (some 36) _ = _
                  simp only [Act.put, sA, sB, sC, i64_w, i32_w]
                  rfl
                refine one_ (i := 14) (N := some 37) #[true, true, true, true, true, true, true, true, true, true, true, true, true, true, true, false, false] rfl rfl (one_of HT_.out (by kernel_rfl)) (by decide) (fun K hK => ?_)
                refine Kd.S_append_step k47 (w0 := w) w.heap.size (by rfl) (.tmp 24) (.tmp 36) 22 47 (.agg #[(.int .i64 0), (.slice none 0 0), (.slice none 0 0)]) 56 rfl Try.underlying22 info47 rfl (by decide) (by omega) u157000 x157000_1 (⟨wrap64 (((rd_T47 l0_0 x19_1).f0) + x6_1), t159, t162⟩ : S47) [.int .i64 (wrap64 (((rd_T47 l0_0 x19_1).f0) + x6_1)), .slice Ao54 t159.length co54, .slice Ao53 t162.length co53] (fun k_ => (w.heap.size ≤ k_) ∧ k_ ≠ gb158) (fun k_ => some k_ = (.slice Ao54 t159.length co54 : Value).ownBlock ∨ some k_ = (.slice Ao53 t162.length co53 : Value).ownBlock) rfl rfl ?aP (fun k_ hk_ => hk_.elim (fun h_ => ((Kd.R_mono (ok' := fun k_ => ((fun k_ => (w.heap.size ≤ k_) ∧ k_ ≠ gb158)) k_ ∧ some k_ ≠ (u157000 : Value).ownBlock) (Kd.R_types (Kd.R_apart' (HO161.out) (Kd.S_typed HO_157000.out) (by decide)) BK158.out (by decide)) (fun k_ hk => ⟨⟨hk.1.1.1.1, hk.2⟩, hk.1.2⟩))).1 k_ h_.symm) (fun h_ => ((Kd.R_mono (ok' := fun k_ => ((fun k_ => (w.heap.size ≤ k_) ∧ k_ ≠ gb158)) k_ ∧ some k_ ≠ (u157000 : Value).ownBlock) (Kd.R_types (Kd.R_apart' (HO164.out) (Kd.S_typed HO_157000.out) (by decide)) BK158.out (by decide)) (fun k_ hk => ⟨⟨hk.1.1.1.1, hk.2⟩, hk.1.2⟩))).1 k_ h_.symm)) ?aF ?aO ?aB ?aS ?aL ?_
                (case aP => exact k47_mkM _ _ _ (⟨wrap64 (((rd_T47 l0_0 x19_1).f0) + x6_1), t159, t162⟩ : S47) (Kd.R_mono (Kd.R_tight rfl (Kd.R_mono (ok' := fun k_ => ((fun k_ => (w.heap.size ≤ k_) ∧ k_ ≠ gb158)) k_ ∧ some k_ ≠ (u157000 : Value).ownBlock) (Kd.R_types (Kd.R_apart' (HO161.out) (Kd.S_typed HO_157000.out) (by decide)) BK158.out (by decide)) (fun k_ hk => ⟨⟨hk.1.1.1.1, hk.2⟩, hk.1.2⟩))) (fun _ h_ => Or.inl h_)) (Kd.R_mono (Kd.R_tight rfl (Kd.R_mono (ok' := fun k_ => ((fun k_ => (w.heap.size ≤ k_) ∧ k_ ≠ gb158)) k_ ∧ some k_ ≠ (u157000 : Value).ownBlock) (Kd.R_types (Kd.R_apart' (HO164.out) (Kd.S_typed HO_157000.out) (by decide)) BK158.out (by decide)) (fun k_ hk => ⟨⟨hk.1.1.1.1, hk.2⟩, hk.1.2⟩))) (fun _ h_ => Or.inr (h_))))
                (case aB => exact (by repeat (first|(with_reducible first|exact HB.out|apply eA|apply eN|apply eD|refine below_set ?_ GE150.out|refine below_set ?_ GE151.out|refine below_set ?_ GE152.out|refine below_set ?_ GE155.out|refine below_set ?_ GE156.out|refine below_set ?_ GE158.out)|exact HB.out)))
                (case aF => exact (fun k_ hk => ⟨(Nat.le_trans (below_size (by repeat (first|(with_reducible first|exact HB.out|apply eA|apply eN|apply eD|refine below_set ?_ GE150.out|refine below_set ?_ GE151.out|refine below_set ?_ GE152.out|refine below_set ?_ GE155.out|refine below_set ?_ GE156.out|refine below_set ?_ GE158.out)|exact HB.out))) hk), Kd.freshB (g := gb158) (o := .cells #[.int .i64 ((rd_T47 l0_0 x19_1).f0), .slice A157_1 ((rd_T47 l0_0 x19_1).f1).length c157_1, .slice A157_2 ((rd_T47 l0_0 x19_1).f2).length c157_2] 47 (0, 0)) (by (with_reducible repeat first|apply bN|apply bD|apply bA);exact BK158.out) k_ hk⟩))
                (case aO => exact (by (with_reducible repeat (first|apply Kd.S_alloc|apply Kd.S_drewN|apply Kd.S_drew));exact Kd.S_mono HO_157000.out (fun k_ hk => ⟨⟨hk.1.1.1, hk.1.1.2⟩, fun e_ => e_.elim (fun h_ => hk.1.2 h_) (fun h_ => hk.2 h_)⟩)))
                (case aS => exact (below_size (by repeat (first|(with_reducible first|exact HB.out|apply eA|apply eN|apply eD|refine below_set ?_ GE150.out|refine below_set ?_ GE151.out|refine below_set ?_ GE152.out|refine below_set ?_ GE155.out|refine below_set ?_ GE156.out|refine below_set ?_ GE158.out)|exact HB.out))))
                (case aL => have := LMc41.out;omega)
                intro v166 w55 ho hb hg hat
                rw [← Ny165.out] at ho
                have n0_ := Aside0.mk (blk_grown (g := gb150) (o := .cells #[.slice (some ad157) l0_0.length c0_0] 24 (0, 0)) (by (with_reducible repeat first|apply bN|apply bD|apply bA);exact BK150.out) hg (Kd.S_ne HO_157000.out BK150.out (by decide)))
                have n1_ := Aside0.mk (blk_grown (g := gb151) (o := .cells #[.slice none 0 0] 24 (0, 0)) (by (with_reducible repeat first|apply bN|apply bD|apply bA);exact BK151.out) hg (Kd.S_ne HO_157000.out BK151.out (by decide)))
                have n2_ := Aside0.mk (blk_grown (g := gb152) (o := .cells #[.int .i64 0, .int .i64 0] 27 (0, 0)) (by (with_reducible repeat first|apply bN|apply bD|apply bA);exact BK152.out) hg (Kd.S_ne HO_157000.out BK152.out (by decide)))
                have n3_ := Aside0.mk (blk_grown (g := gb155) (o := .cells #[.int .i64 t153, .int .i64 t154] 27 (0, 0)) (by (with_reducible repeat first|apply bN|apply bD|apply bA);exact BK155.out) hg (Kd.S_ne HO_157000.out BK155.out (by decide)))
                have n4_ := Aside0.mk (blk_grown (g := gb156) (o := .cells #[u157000] 24 (0, 0)) (by (with_reducible repeat first|apply bN|apply bD|apply bA);exact BK156.out) hg (Kd.S_ne HO_157000.out BK156.out (by decide)))
                have n5_ := Aside0.mk (blk_grown (g := gb158) (o := .cells #[.int .i64 ((rd_T47 l0_0 x19_1).f0), .slice A157_1 ((rd_T47 l0_0 x19_1).f1).length c157_1, .slice A157_2 ((rd_T47 l0_0 x19_1).f2).length c157_2] 47 (0, 0)) (by (with_reducible repeat first|apply bN|apply bD|apply bA);exact BK158.out) hg (Kd.S_away HO_157000.out (fun _ hk => hk.1.1.2)))
                have n6_ := Aside0.mk (hb)
                have n7_ := Aside0.mk (ho)
                clear BK150
                clear BK151
                clear BK152
                clear BK155
                clear BK156
                clear BK158
                clear HB
                clear HO_157000
                clear HO161
                clear HO164
                have BK150 := n0_
                have BK151 := n1_
                have BK152 := n2_
                have BK155 := n3_
                have BK156 := n4_
                have BK158 := n5_
                have HB := n6_
                have HO167 := n7_
                clear n0_ n1_ n2_ n3_ n4_ n5_ n6_ n7_
                clear ho hb hg hat
                obtain ⟨Ao56, co56, eo56⟩ := Kd.S_slice HO167.out
                (first|subst eo56|(injection eo56 with f1_ f2_ f3_;have f4_ := f1_.symm;have f5_ := f3_.symm;clear f1_ f2_ f3_;subst f4_;subst f5_))
                refine hK.out _ _ ⟨(blk_cell BK156.out 0).trans rfl, (blk_cell BK158.out 0).trans rfl, (blk_cell BK158.out 1).trans rfl, (blk_cell BK158.out 2).trans rfl⟩ (fun hHeld => ?_)
                clear hK K
                refine norm_ (a' := ?_) ?_ ?_
                rotate_left
                · show Act.put _ (some 37) _ = _
                  simp only [Act.put, sA, sB, sC, i64_w, i32_w]
                  rfl
                refine pure_ (i := 15) (N := some 38) (v := ?_) (a' := ?_) #[true, true, true, true, true, true, true, true, true, true, true, true, true, true, true, true, false] rfl rfl (any_of HT_.out (by kernel_rfl)) (fun _ _ _ h => h) (Or.inl ⟨by rfl, ?_⟩) ?_ ?_
                rotate_left
                · intro w'
                  go_simp
                  with_reducible rfl
                rotate_left
                · simp only [Act.put, sA, sB, sC, i64_w, i32_w]
                  rfl
                refine last_ (i := 16) (N := none) #[true, true, true, true, true, true, true, true, true, true, true, true, true, true, true, true, true] rfl rfl (one_of HT_.out (by kernel_rfl)) (by decide) (fun K hK => ?_)
                have hs57 : w55.cell? ⟨gb156, 0, none⟩ = some (u157000) := (blk_cell BK156.out 0).trans rfl
                have hfs57 := blk_frozen BK156.out 0
                have hns57_0 := NB150_156.out
                have hns57_1 := NB151_156.out
                have hns57_2 := NB152_156.out
                have hns57_3 := NB155_156.out
                have hns57_5 := NB158_156.out
                have hms57_0 := NB156_150.out
                have hms57_1 := NB156_151.out
                have hms57_2 := NB156_152.out
                have hms57_3 := NB156_155.out
                have hms57_5 := NB156_158.out
                refine skip_ (w1 := ?_) (by rfl) rfl ?_ ?_
                rotate_left
                · go_simp
                  rfl
                refine hK.out _ _ ?_
                clear hK K
                refine done_ (done_of HT_.out (by kernel_rfl)) ?_
                have hcz58_0 : w55.cell? ⟨gb158, 0, none⟩ = some (.int .i64 ((rd_T47 l0_0 x19_1).f0)) := (blk_cell BK158.out 0).trans rfl
                have hcz58_1 : w55.cell? ⟨gb158, 1, none⟩ = some (.slice A157_1 ((rd_T47 l0_0 x19_1).f1).length c157_1) := (blk_cell BK158.out 1).trans rfl
                have hcz58_2 : w55.cell? ⟨gb158, 2, none⟩ = some (.slice A157_2 ((rd_T47 l0_0 x19_1).f2).length c157_2) := (blk_cell BK158.out 2).trans rfl
                have hfz58_0 := blk_frozen BK158.out 0
                have hfz58_1 := blk_frozen BK158.out 1
                have hfz58_2 := blk_frozen BK158.out 2
                try go_wp2
                go_roundg k1
                case measure => have := HK1.out;omega
                case rel => exact ⟨(wrap64 (x6_1 + (wrap64 ((((rd_T47 l0_0 x19_1).f2).length : Int) - (((rd_T47 l0_0 x19_1).f1).length : Int))))), (wrap64 (x19_1 + 1)), (y165), (.slice Ao56 y165.length co56), (by first|rfl|(simp;done)|(simp [*];done)), (by first|rfl|(simp;done)|(simp [*];done)), H', ⟨by have := HK1.out;omega⟩, ⟨by (with_reducible repeat (first|apply Kd.S_alloc|apply Kd.S_drewN|apply Kd.S_drew));exact Kd.S_mono (Kd.S_far (p := ⟨gb156, 0, none⟩) (Kd.S_types HO167.out BK156.out (by decide)) (fun _ hk => hk.2) (.slice Ao56 y165.length co56)) (fun _ hk => hk.1.1)⟩, ⟨by (with_reducible repeat first|apply bN|apply bD|apply bA);refine blk_far ?_ NB150_156.out _;(with_reducible repeat first|apply bN|apply bD|apply bA);exact BK150.out⟩, ⟨by (with_reducible repeat first|apply bN|apply bD|apply bA);refine blk_far ?_ NB151_156.out _;(with_reducible repeat first|apply bN|apply bD|apply bA);exact BK151.out⟩, ⟨by (with_reducible repeat first|apply bN|apply bD|apply bA);refine blk_far ?_ NB152_156.out _;(with_reducible repeat first|apply bN|apply bD|apply bA);exact BK152.out⟩, ⟨by (with_reducible repeat first|apply bN|apply bD|apply bA);refine blk_far ?_ NB155_156.out _;(with_reducible repeat first|apply bN|apply bD|apply bA);exact BK155.out⟩, ⟨by (with_reducible repeat first|apply bN|apply bD|apply bA);refine blk_put (cs := #[u157000]) ?_ 0 _ rfl;(with_reducible repeat first|apply bN|apply bD|apply bA);exact BK156.out⟩, ⟨by repeat (first|(with_reducible first|exact HB.out|apply eA|apply eN|apply eD|refine below_set ?_ GE150.out|refine below_set ?_ GE151.out|refine below_set ?_ GE152.out|refine below_set ?_ GE155.out|refine below_set ?_ GE156.out|refine below_set ?_ GE158.out)|exact HB.out)⟩⟩
              · rw [if_neg c41] at H
                exact absurd H (by simp)
            · rw [if_neg c38] at H
              exact absurd H (by simp)
          · rw [if_neg c37] at H
            exact absurd H (by simp)
        · rw [if_neg c36] at H
          have c36b0 : decide (x19_1 < (l0_0.length : Int)) = false := decide_eq_false c36
          clear c36
          replace H := Option.bind_eq_some_iff.mp H
          obtain ⟨⟨t168, t171, t172⟩, A590, H⟩ := H
          replace H : (some (t168, t171, t172)) = some (r1, r2, r3) := H
          have A59 := Aside0.mk A590
          clear A590
          simp only [Option.some.injEq, Prod.mk.injEq] at H
          obtain ⟨rfl, rfl, rfl⟩ := H
          have hnb60 := NB156_150.out
          have hnc60 := NB150_156.out
          have hnb61 := NB156_151.out
          have hnc61 := NB151_156.out
          have hnb62 := NB156_152.out
          have hnc62 := NB152_156.out
          have hnb63 := NB156_155.out
          have hnc63 := NB155_156.out
          have hcz64_0 : wr.cell? ⟨gb156, 0, none⟩ = some (u157000) := (blk_cell BK156.out 0).trans rfl
          have hfz64_0 := blk_frozen BK156.out 0
          obtain ⟨Ao65, co65, eo65⟩ := Kd.S_slice HO_157000.out
          subst eo65
          go_wp2_with (first|((with_reducible refine gate_callee (f := 40) rfl ?_);refine goesL_ (some 50) rfl rfl Try.func40 (by kernel_rfl) rfl #[.agg #[.slice Ao65 x157000_1.length co65]] rfl (by (try simp only [List.map_toArray, List.map_cons, List.map_nil]);first|done|rfl|(simp only [List.length_drop, List.length_take];rfl)) ?_;(with_reducible refine (textpatch_Fit.calls (fun k_ => ((((((w.heap.size ≤ k_) ∧ k_ ≠ gb150) ∧ k_ ≠ gb151) ∧ k_ ≠ gb152) ∧ k_ ≠ gb155) ∧ k_ ≠ gb156)) _ _ x157000_1 t168 t171 t172 _ ?side1 A59.out).mono ?_);(case side1 => exact Kd.S_V (Kd.S_types (Kd.S_types (Kd.S_types (Kd.S_types (Kd.S_types (HO_157000.out) BK150.out (by decide)) BK151.out (by decide)) BK152.out (by decide)) BK155.out (by decide)) BK156.out (by decide)));rintro e w66 ⟨v169, rfl, ho0, hb⟩;refine ⟨_, rfl, ?_⟩;have n0_ := Aside0.mk (Kd.S_below (by (with_reducible repeat (first|apply Kd.S_alloc|apply Kd.S_drewN|apply Kd.S_drew));exact HO_157000.out) hb);have n1_ := Aside0.mk (Kd.V_lower (Kd.V_mono (ok' := fun k_ => (w.heap.size ≤ k_) ∧ k_ ≠ gb150 ∧ k_ ≠ gb151 ∧ k_ ≠ gb152 ∧ k_ ≠ gb155 ∧ k_ ≠ gb156) ho0 (fun k_ hk_ => ⟨Or.elim hk_ (fun hs_ => hs_.1.1.1.1.1) (fun hn_ => (Nat.le_trans (below_size (by repeat (first|(with_reducible first|exact HB.out|apply eA|apply eN|apply eD|refine below_set ?_ GE150.out|refine below_set ?_ GE151.out|refine below_set ?_ GE152.out|refine below_set ?_ GE155.out|refine below_set ?_ GE156.out)|exact HB.out))) hn_)), Or.elim hk_ (fun hs_ => hs_.1.1.1.1.2) (fun hn_ => (Kd.freshB (g := gb150) (o := .cells #[.slice A0_0 l0_0.length c0_0] 24 (0, 0)) (by (with_reducible repeat first|apply bN|apply bD|apply bA);exact BK150.out) k_ hn_)), Or.elim hk_ (fun hs_ => hs_.1.1.1.2) (fun hn_ => (Kd.freshB (g := gb151) (o := .cells #[.slice none 0 0] 24 (0, 0)) (by (with_reducible repeat first|apply bN|apply bD|apply bA);exact BK151.out) k_ hn_)), Or.elim hk_ (fun hs_ => hs_.1.1.2) (fun hn_ => (Kd.freshB (g := gb152) (o := .cells #[.int .i64 0, .int .i64 0] 27 (0, 0)) (by (with_reducible repeat first|apply bN|apply bD|apply bA);exact BK152.out) k_ hn_)), Or.elim hk_ (fun hs_ => hs_.1.2) (fun hn_ => (Kd.freshB (g := gb155) (o := .cells #[.int .i64 t153, .int .i64 t154] 27 (0, 0)) (by (with_reducible repeat first|apply bN|apply bD|apply bA);exact BK155.out) k_ hn_)), Or.elim hk_ (fun hs_ => hs_.2) (fun hn_ => (Kd.freshB (g := gb156) (o := .cells #[.slice Ao65 x157000_1.length co65] 24 (0, 0)) (by (with_reducible repeat first|apply bN|apply bD|apply bA);exact BK156.out) k_ hn_))⟩)) (below_size (by repeat (first|(with_reducible first|exact HB.out|apply eA|apply eN|apply eD|refine below_set ?_ GE150.out|refine below_set ?_ GE151.out|refine below_set ?_ GE152.out|refine below_set ?_ GE155.out|refine below_set ?_ GE156.out)|exact HB.out))));have n2_ := Aside0.mk (blk_below (g := gb150) (o := .cells #[.slice A0_0 l0_0.length c0_0] 24 (0, 0)) (by (with_reducible repeat first|apply bN|apply bD|apply bA);exact BK150.out) hb);have n3_ := Aside0.mk (blk_below (g := gb151) (o := .cells #[.slice none 0 0] 24 (0, 0)) (by (with_reducible repeat first|apply bN|apply bD|apply bA);exact BK151.out) hb);have n4_ := Aside0.mk (blk_below (g := gb152) (o := .cells #[.int .i64 0, .int .i64 0] 27 (0, 0)) (by (with_reducible repeat first|apply bN|apply bD|apply bA);exact BK152.out) hb);have n5_ := Aside0.mk (blk_below (g := gb155) (o := .cells #[.int .i64 t153, .int .i64 t154] 27 (0, 0)) (by (with_reducible repeat first|apply bN|apply bD|apply bA);exact BK155.out) hb);have n6_ := Aside0.mk (blk_below (g := gb156) (o := .cells #[.slice Ao65 x157000_1.length co65] 24 (0, 0)) (by (with_reducible repeat first|apply bN|apply bD|apply bA);exact BK156.out) hb);have n7_ := Aside0.mk (below_step (by repeat (first|(with_reducible first|exact HB.out|apply eA|apply eN|apply eD|refine below_set ?_ GE150.out|refine below_set ?_ GE151.out|refine below_set ?_ GE152.out|refine below_set ?_ GE155.out|refine below_set ?_ GE156.out)|exact HB.out)) hb);clear HO_157000;clear BK150;clear BK151;clear BK152;clear BK155;clear BK156;clear HB;have HO_157000 := n0_;have HO170 := n1_;have BK150 := n2_;have BK151 := n3_;have BK152 := n4_;have BK155 := n5_;have BK156 := n6_;have HB := n7_;clear n0_ n1_ n2_ n3_ n4_ n5_ n6_ n7_;(try clear hb);(try clear hb2);(try clear hk);(try clear hi);(try clear ho0);obtain ⟨Ao67, co67, eo67⟩ := Kd.V_slice HO170.out;subst eo67;have hnb68 := NB151_150.out;have hnc68 := NB150_151.out;have hnb69 := NB151_152.out;have hnc69 := NB152_151.out;have hnb70 := NB151_155.out;have hnc70 := NB155_151.out;have hcz71_0 : w66.cell? ⟨gb151, 0, none⟩ = some (.slice none 0 0) := (blk_cell BK151.out 0).trans rfl;have hfz71_0 := blk_frozen BK151.out 0;have hnb72 := NB152_150.out;have hnc72 := NB150_152.out;have hnb73 := NB152_155.out;have hnc73 := NB155_152.out;have hcz74_0 : w66.cell? ⟨gb152, 0, none⟩ = some (.int .i64 0) := (blk_cell BK152.out 0).trans rfl;have hcz74_1 : w66.cell? ⟨gb152, 1, none⟩ = some (.int .i64 0) := (blk_cell BK152.out 1).trans rfl;have hfz74_0 := blk_frozen BK152.out 0;have hfz74_1 := blk_frozen BK152.out 1))
          refine bodyPost_ret (results_cc rfl _ _ gb151 gb152 24 27 #[.slice Ao67 t168.length co67] #[.int .i64 t171, .int .i64 t172] (0, 0) (0, 0) _ _ rfl (by (with_reducible repeat first|apply bN|apply bD|apply bA);refine blk_far ?_ NB151_152.out _;(with_reducible repeat first|apply bN|apply bD|apply bA);refine blk_far ?_ NB151_152.out _;(with_reducible repeat first|apply bN|apply bD|apply bA);refine blk_put (cs := #[.slice none 0 0]) ?_ 0 _ rfl;(with_reducible repeat first|apply bN|apply bD|apply bA);exact BK151.out) Try.underlying24 rfl (by kernel_rfl) rfl (by (with_reducible repeat first|apply bN|apply bD|apply bA);refine blk_put (cs := #[.int .i64 t171, .int .i64 0]) ?_ 1 _ rfl;(with_reducible repeat first|apply bN|apply bD|apply bA);refine blk_put (cs := #[.int .i64 0, .int .i64 0]) ?_ 0 _ rfl;(with_reducible repeat first|apply bN|apply bD|apply bA);refine blk_far ?_ NB152_151.out _;(with_reducible repeat first|apply bN|apply bD|apply bA);exact BK152.out) Try.underlying27 rfl (by kernel_rfl)) rfl ?_
          exact ⟨_, by first|rfl|(simp [errW_none, errW_some] <;> rfl)|(simp [*, errW_none, errW_some] <;> rfl), by (with_reducible repeat (first|apply Kd.V_alloc|apply Kd.V_drewN|apply Kd.V_drew));exact Kd.V_mono (Kd.V_far (p := ⟨gb152, 1, none⟩) (Kd.V_far (p := ⟨gb152, 0, none⟩) (Kd.V_far (p := ⟨gb151, 0, none⟩) (Kd.V_mono (Kd.V_mono HO170.out (fun k_ hk => (⟨hk, hk.2.2.1⟩ : _ ∧ k_ ≠ gb151))) (fun k_ hk => (⟨hk, hk.1.2.2.2.1⟩ : _ ∧ k_ ≠ gb152))) (fun _ hk => hk.1.2) (.slice Ao67 t168.length co67)) (fun _ hk => hk.2) (.int .i64 t171)) (fun _ hk => hk.2) (.int .i64 t172)) (fun _ hk => hk.1.1.1), by repeat (first|(with_reducible first|exact HB.out|apply eA|apply eN|apply eD|refine below_set ?_ GE150.out|refine below_set ?_ GE151.out|refine below_set ?_ GE152.out|refine below_set ?_ GE155.out|refine below_set ?_ GE156.out)|exact HB.out)⟩

/-! ### changeforgeequal_Strings_0: function 21 -/
def changeforgeequal_Strings_0.l0 : Nat → List ByteArray → List ByteArray → Int → Option (Bool)
  | 0, _, _, _ => none
  | k + 1, x0, x1, x5 => if x5 < (x0.length : Int) then (if 0 ≤ x5 then (if x5 < (x1.length : Int) then (if (rdOf ByteArray.empty x0 x5).toList = (rdOf ByteArray.empty x1 x5).toList then (changeforgeequal_Strings_0.l0 k x0 x1 (wrap64 (x5 + 1))) else (some false)) else (none)) else (none)) else (some true)
def changeforgeequal_Strings_0.f (k : Nat) (l0 : List ByteArray) (l1 : List ByteArray) : Option (Bool) := if (l0.length : Int) = (l1.length : Int) then (changeforgeequal_Strings_0.l0 k l0 l1 0) else (some false)
theorem changeforgeequal_Strings_0.mono_l : ∀ k, (∀ y0 y1 y2, LeO (changeforgeequal_Strings_0.l0 k y0 y1 y2) (changeforgeequal_Strings_0.l0 (k + 1) y0 y1 y2))
  | 0 => fun _ _ _ r h => by simp [changeforgeequal_Strings_0.l0] at h
  | k + 1 => by
    have ih0 := changeforgeequal_Strings_0.mono_l k
    · intro y0 y1 y2
      unfold changeforgeequal_Strings_0.l0
      repeat' first
      | (with_reducible exact ih0 _ _ _)
      | (with_reducible exact LeO.refl _)
      | (with_reducible exact LeO.none _)
      | (with_reducible refine LeO.ite ?_ ?_)
      | (with_reducible refine LeO.bind ?_ (fun _ => ?_))
      | exact ih0 _ _ _
      | exact LeO.none _
      | refine LeO.ite ?_ ?_
      | refine LeO.bind ?_ (fun _ => ?_)
theorem changeforgeequal_Strings_0.mono : ∀ a0 a1 k, LeO (changeforgeequal_Strings_0.f k a0 a1) (changeforgeequal_Strings_0.f (k + 1) a0 a1) := by
  intro a0 a1 k
  have ih0 := changeforgeequal_Strings_0.mono_l k
  unfold changeforgeequal_Strings_0.f
  repeat' first
      | (with_reducible exact ih0 _ _ _)
      | (with_reducible exact LeO.refl _)
      | (with_reducible exact LeO.none _)
      | (with_reducible refine LeO.ite ?_ ?_)
      | (with_reducible refine LeO.bind ?_ (fun _ => ?_))
      | exact ih0 _ _ _
      | exact LeO.none _
      | refine LeO.ite ?_ ?_
      | refine LeO.bind ?_ (fun _ => ?_)
set_option maxHeartbeats 8000000 in
set_option maxRecDepth 100000 in
theorem changeforgeequal_Strings_0.calls (k : Nat) (A0 : Option Addr) (c0 : Nat) (l0 : List ByteArray) (A1 : Option Addr) (c1 : Nat) (l1 : List ByteArray) (r : Bool) (w : World) (hr0 : Kd.C Kd.string w A0 l0.length l0) (hc0 : l0.length ≤ c0) (hr1 : Kd.C Kd.string w A1 l1.length l1) (hc1 : l1.length ≤ c1) (h : changeforgeequal_Strings_0.f k l0 l1 = some r) :
    Calls Try.prog 21 #[.slice A0 l0.length c0, .slice A1 l1.length c1] w fun e w' => e = .returned (.bool r) ∧ Drawn0 w w' := by
  have HR0 := Aside0.mk hr0
  have HC0 := Aside0.mk hc0
  clear hr0 hc0
  have HR1 := Aside0.mk hr1
  have HC1 := Aside0.mk hc1
  clear hr1 hc1
  have H : (if (l0.length : Int) = (l1.length : Int) then (changeforgeequal_Strings_0.l0 k l0 l1 0) else (some false)) = some r := h
  clear h
  by_cases c3 : (l0.length : Int) = (l1.length : Int)
  · rw [if_pos c3] at H
    have c3b0 : ((l0.length : Int) == (l1.length : Int)) = true := beq_iff_eq.mpr c3
    have c3b1 : ((l0.length : Int) != (l1.length : Int)) = false := bne_eq_false_iff_eq.mpr c3
    have c3b2 : (l0.length == l1.length) = true := by first|simpa using c3|(simp at c3 ⊢;omega)
    clear c3
    have H' := Aside0.mk H
    clear H
    go_enter Try.func21, Try.ntmps21
    go_wp2
    repeat (go_quiet (fail);try go_wp2)
    go_loopg [5] k (fun kq v5 w' => ∃ (x5_1 : Int), v5 = .int .i64 x5_1 ∧ Aside0 (changeforgeequal_Strings_0.l0 kq l0 l1 x5_1 = some r) ∧ Aside0 (kq ≤ k) ∧ Drawn0 w w')
    case atStart => exact ⟨(0), (by first|rfl|(simp;done)|(simp [*];done)), H', ⟨Nat.le_refl _⟩, by repeat (first|exact Drawn0.refl _|apply Drawn0.step)⟩
    case round =>
      clear H'
      try clear c1
      try clear c2
      try clear p2
      try clear c3
      try clear c3b0
      try clear c3b1
      try clear c3b2
      obtain ⟨x5_1, rfl, HA, HK1, ⟨m1, rfl⟩⟩ := hrel
      cases gk with
      | zero => exact absurd HA.out (by simp [changeforgeequal_Strings_0.l0])
      | succ k1 =>
        have H := HA.out
        clear HA
        simp only [changeforgeequal_Strings_0.l0] at H
        by_cases c4 : x5_1 < (l0.length : Int)
        · rw [if_pos c4] at H
          have c4b0 : decide (x5_1 < (l0.length : Int)) = true := decide_eq_true c4
          clear c4
          by_cases c5 : 0 ≤ x5_1
          · rw [if_pos c5] at H
            have c5b0 : decide (0 ≤ x5_1) = true := decide_eq_true c5
            clear c5
            by_cases c6 : x5_1 < (l1.length : Int)
            · rw [if_pos c6] at H
              have c6b0 : decide (x5_1 < (l1.length : Int)) = true := decide_eq_true c6
              clear c6
              by_cases c7 : (rdOf ByteArray.empty l0 x5_1).toList = (rdOf ByteArray.empty l1 x5_1).toList
              · rw [if_pos c7] at H
                have c7b0 : ((rdOf ByteArray.empty l0 x5_1).toList == (rdOf ByteArray.empty l1 x5_1).toList) = true := beq_iff_eq.mpr c7
                have c7b1 : ((rdOf ByteArray.empty l0 x5_1).toList != (rdOf ByteArray.empty l1 x5_1).toList) = false := bne_eq_false_iff_eq.mpr c7
                clear c7
                have H' := Aside0.mk H
                clear H
                have p173 : 0 ≤ (x5_1 : Int) := of_decide_eq_true (by first|(with_reducible assumption)|assumption)
                have q173 : x5_1 < (l0.length : Int) := of_decide_eq_true (by first|(with_reducible assumption)|assumption)
                obtain ⟨ad173, e173, hx173_0⟩ := Kd.at_string HR0.out x5_1 p173 q173
                cases e173
                replace p173 := eq_true p173
                replace q173 := eq_true q173
                have p174 : 0 ≤ (x5_1 : Int) := of_decide_eq_true (by first|(with_reducible assumption)|assumption)
                have q174 : x5_1 < (l1.length : Int) := of_decide_eq_true (by first|(with_reducible assumption)|assumption)
                obtain ⟨ad174, e174, hx174_0⟩ := Kd.at_string HR1.out x5_1 p174 q174
                cases e174
                replace p174 := eq_true p174
                replace q174 := eq_true q174
                go_wp2
                repeat (go_quiet (fail);try go_wp2)
                go_roundg k1
                case measure => have := HK1.out;omega
                case rel => exact ⟨(wrap64 (x5_1 + 1)), (by first|rfl|(simp;done)|(simp [*];done)), H', ⟨by have := HK1.out;omega⟩, by repeat (first|exact Drawn0.refl _|apply Drawn0.step)⟩
              · rw [if_neg c7] at H
                have c7b0 : ((rdOf ByteArray.empty l0 x5_1).toList == (rdOf ByteArray.empty l1 x5_1).toList) = false := beq_eq_false_iff_ne.mpr c7
                have c7b1 : ((rdOf ByteArray.empty l0 x5_1).toList != (rdOf ByteArray.empty l1 x5_1).toList) = true := bne_iff_ne.mpr c7
                obtain rfl := Option.some.inj H
                have p173 : 0 ≤ (x5_1 : Int) := of_decide_eq_true (by first|(with_reducible assumption)|assumption)
                have q173 : x5_1 < (l0.length : Int) := of_decide_eq_true (by first|(with_reducible assumption)|assumption)
                obtain ⟨ad173, e173, hx173_0⟩ := Kd.at_string HR0.out x5_1 p173 q173
                cases e173
                replace p173 := eq_true p173
                replace q173 := eq_true q173
                have p174 : 0 ≤ (x5_1 : Int) := of_decide_eq_true (by first|(with_reducible assumption)|assumption)
                have q174 : x5_1 < (l1.length : Int) := of_decide_eq_true (by first|(with_reducible assumption)|assumption)
                obtain ⟨ad174, e174, hx174_0⟩ := Kd.at_string HR1.out x5_1 p174 q174
                cases e174
                replace p174 := eq_true p174
                replace q174 := eq_true q174
                go_wp2
                repeat (go_quiet (fail);try go_wp2)
                go_ret
                exact ⟨by first|rfl|(simp;done)|(simp [*];done), by repeat (first|exact Drawn0.refl _|apply Drawn0.step)⟩
            · rw [if_neg c6] at H
              exact absurd H (by simp)
          · rw [if_neg c5] at H
            exact absurd H (by simp)
        · rw [if_neg c4] at H
          have c4b0 : decide (x5_1 < (l0.length : Int)) = false := decide_eq_false c4
          clear c4
          obtain rfl := Option.some.inj H
          go_wp2
          repeat (go_quiet (fail);try go_wp2)
          go_ret
          exact ⟨by first|rfl|(simp;done)|(simp [*];done), by repeat (first|exact Drawn0.refl _|apply Drawn0.step)⟩
  · rw [if_neg c3] at H
    have c3b0 : ((l0.length : Int) == (l1.length : Int)) = false := beq_eq_false_iff_ne.mpr c3
    have c3b1 : ((l0.length : Int) != (l1.length : Int)) = true := bne_iff_ne.mpr c3
    have c3b2 : (l0.length == l1.length) = false := by first|simpa using c3|(simp at c3 ⊢;omega)
    obtain rfl := Option.some.inj H
    go_enter Try.func21, Try.ntmps21
    go_wp2
    repeat (go_quiet (fail);try go_wp2)
    go_ret
    exact ⟨by first|rfl|(simp;done)|(simp [*];done), by repeat (first|exact Drawn0.refl _|apply Drawn0.step)⟩

/-! ### changeforgeequal_Strings: function 21 -/
theorem changeforgeequal_Strings_0.loop (a b : List ByteArray) (hl : a.length = b.length) (hm : a.length ≤ 9223372036854775807) (d : Nat) : ∀ (k i : Nat), i ≤ a.length → a.length - i = d → d < k →
    changeforgeequal_Strings_0.l0 k a b (i : Int) = some (decide (a.drop i = b.drop i)) := by
  induction d with
  | zero =>
    intro k i hi hd hk
    obtain ⟨k, rfl⟩ : ∃ m, k = m + 1 := ⟨k - 1, by omega⟩
    simp only [changeforgeequal_Strings_0.l0]
    rw [if_neg (by omega), List.drop_eq_nil_of_le (by omega), List.drop_eq_nil_of_le (by omega)]
    rfl
  | succ d ih =>
    intro k i hi hd hk
    obtain ⟨k, rfl⟩ : ∃ m, k = m + 1 := ⟨k - 1, by omega⟩
    rw [rdOf_drop ByteArray.empty a i (by omega), rdOf_drop ByteArray.empty b i (by omega)]
    simp only [changeforgeequal_Strings_0.l0]
    rw [if_pos (by omega), if_pos (by omega), if_pos (by omega)]
    by_cases e : rdOf ByteArray.empty a (i : Int) = rdOf ByteArray.empty b (i : Int)
    · rw [if_pos (toList_inj.mpr e), w64 (by omega) (by omega)]
      have := ih k (i + 1) (by omega) (by omega) (by omega)
      rw [Int.natCast_add] at this
      rw [show (((1 : Nat) : Int)) = 1 from rfl] at this
      rw [this, e]
      simp
    · rw [if_neg (fun h => e (toList_inj.mp h))]
      simp [e]
def changeforgeequal_Strings.f (l0 : List ByteArray) (l1 : List ByteArray) : Option (Bool) :=  some (decide (l0 = l1))
theorem changeforgeequal_Strings.calls (A0 : Option Addr) (c0 : Nat) (l0 : List ByteArray) (A1 : Option Addr) (c1 : Nat) (l1 : List ByteArray) (r : Bool) (w : World) (hr0 : Kd.C Kd.string w A0 l0.length l0) (hc0 : l0.length ≤ c0) (hr1 : Kd.C Kd.string w A1 l1.length l1) (hc1 : l1.length ≤ c1) (h : changeforgeequal_Strings.f l0 l1 = some r) :
    Calls Try.prog 21 #[.slice A0 l0.length c0, .slice A1 l1.length c1] w fun e w' => e = .returned (.bool r) ∧ Drawn0 w w' := by
  have hm : l0.length ≤ 9223372036854775807 := hr0.2.1
  have h' : changeforgeequal_Strings_0.f (l0.length + 1) l0 l1 = some r := by
    rw [← h]
    unfold changeforgeequal_Strings_0.f changeforgeequal_Strings.f
    by_cases c : l0.length = l1.length
    · rw [if_pos (by omega)]
      have := changeforgeequal_Strings_0.loop l0 l1 c hm l0.length (l0.length + 1) 0 (by omega) (by omega) (by omega)
      simpa using this
    · rw [if_neg (by omega)]
      have : ¬ l0 = l1 := fun e => c (by rw [e])
      simp [this]
  exact (changeforgeequal_Strings_0.calls (l0.length + 1) A0 c0 l0 A1 c1 l1 r w hr0 hc0 hr1 hc1 (h'))


end Go.Proofs.Ytdnnkhogpobjbaa.PV
