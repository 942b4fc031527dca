/- Printed by a program of this session out of the translation: Lean functions for Go functions, and proofs that the Go functions answer the same. -/
import Derived.Test.YtdnnkhogpobjbaaPU0
import Derived.Test.YtdnnkhogpobjbaaPU3
import Derived.Test.YtdnnkhogpobjbaaPU5
import Derived.Test.YtdnnkhogpobjbaaPU7
namespace Go.Proofs.Ytdnnkhogpobjbaa.PU
open Go.RowKit Go.Proofs.Ytdnnkhogpobjbaa.Pre Go.Proofs.YtdnnkhogpobjbaaW.PrintWords Go.Proofs.YtdnnkhogpobjbaaW.PrintLast Go.Proofs.YtdnnkhogpobjbaaW.PrintMore
attribute [local go_sem] max2_int min2_int max_two min_two max_three min_three max_four min_four   -- for this text's walks alone
set_option linter.unusedVariables false
set_option linter.unusedSimpArgs false

/-! ### changeforgelaw1_CommuteSameEffect: function 12 -/
mutual
def changeforgelaw1_CommuteSameEffect.j0 : Nat → List ByteArray → Bool → List (S47) → List (S47) → List (S47) → List (S47) → Option (Bool)
  | 0, _, _, _, _, _, _ => none
  | k + 1, x2, x33, x298000, x299000, x309000, x310000 => if x33 = true then ((changeforgelaw1_exchanged.f k).bind fun t311 => (some t311)) else ((textpatch_Apply.f x298000 x2).bind fun bt312 => ((textpatch_Apply.f x299000 bt312.1).bind fun bt318 => ((textpatch_Apply.f x309000 x2).bind fun bt324 => ((textpatch_Apply.f x310000 bt324.1).bind fun bt330 => (if bt312.2.1 = 0 then (if bt318.2.1 = 0 then (if bt324.2.1 = 10 then (changeforgelaw1_CommuteSameEffect.j1 k bt318.1 bt330.1 true bt324.2.1 bt324.2.2 bt330.2.1 bt330.2.2) else (changeforgelaw1_CommuteSameEffect.j1 k bt318.1 bt330.1 (bt330.2.1 == 10) bt324.2.1 bt324.2.2 bt330.2.1 bt330.2.2)) else (changeforgelaw1_CommuteSameEffect.j1 k bt318.1 bt330.1 true bt324.2.1 bt324.2.2 bt330.2.1 bt330.2.2)) else (changeforgelaw1_CommuteSameEffect.j1 k bt318.1 bt330.1 true bt324.2.1 bt324.2.2 bt330.2.1 bt330.2.2))))))
def changeforgelaw1_CommuteSameEffect.j1 : Nat → List ByteArray → List ByteArray → Bool → Int → Int → Int → Int → Option (Bool)
  | 0, _, _, _, _, _, _, _ => none
  | k + 1, x13, x17, x76, x330000, x330001, x336000, x336001 => if x76 = true then ((changeforgelaw1_exchanged.f k).bind fun t336 => (some t336)) else (if x330000 = 0 then (if x336000 = 0 then ((changeforgeequal_Strings.f x17 x13).bind fun t337 => (if t337 = true then ((changeforgelaw1_exchanged.f k).bind fun t338 => (some t338)) else (some false))) else (some false)) else (some false))
end
def changeforgelaw1_CommuteSameEffect.f (k : Nat) (l0_0 : List (S47)) (l1_0 : List (S47)) (l2 : List ByteArray) : Option (Bool) := (commute_Commute.f k l0_0 l1_0).bind fun bt299 => (if bt299.2.2.2.1 = 0 then (changeforgelaw1_CommuteSameEffect.j0 k l2 (!bt299.2.2.1) l0_0 l1_0 bt299.1 bt299.2.1) else (changeforgelaw1_CommuteSameEffect.j0 k l2 true l0_0 l1_0 bt299.1 bt299.2.1))
theorem changeforgelaw1_CommuteSameEffect.mono_l : ∀ k, (∀ y0 y1 y2 y3 y4 y5, LeO (changeforgelaw1_CommuteSameEffect.j0 k y0 y1 y2 y3 y4 y5) (changeforgelaw1_CommuteSameEffect.j0 (k + 1) y0 y1 y2 y3 y4 y5)) ∧ (∀ y0 y1 y2 y3 y4 y5 y6, LeO (changeforgelaw1_CommuteSameEffect.j1 k y0 y1 y2 y3 y4 y5 y6) (changeforgelaw1_CommuteSameEffect.j1 (k + 1) y0 y1 y2 y3 y4 y5 y6))
  | 0 => ⟨fun _ _ _ _ _ _ r h => by simp [changeforgelaw1_CommuteSameEffect.j0] at h, fun _ _ _ _ _ _ _ r h => by simp [changeforgelaw1_CommuteSameEffect.j1] at h⟩
  | k + 1 => by
    obtain ⟨ih0, ih1⟩ := changeforgelaw1_CommuteSameEffect.mono_l k;refine ⟨?_, ?_⟩
    · intro y0 y1 y2 y3 y4 y5
      unfold changeforgelaw1_CommuteSameEffect.j0
      repeat' first
      | (with_reducible exact ih0 _ _ _ _ _ _)
      | (with_reducible exact ih1 _ _ _ _ _ _ _)
      | (with_reducible exact changeforgelaw1_exchanged.mono _)
      | (with_reducible exact commute_Commute.mono _ _ _)
      | (with_reducible exact LeO.refl _)
      | (with_reducible exact LeO.none _)
      | (with_reducible refine LeO.ite ?_ ?_)
      | (with_reducible refine LeO.bind ?_ (fun _ => ?_))
      | exact ih0 _ _ _ _ _ _
      | exact ih1 _ _ _ _ _ _ _
      | exact changeforgelaw1_exchanged.mono _
      | exact commute_Commute.mono _ _ _
      | exact LeO.none _
      | refine LeO.ite ?_ ?_
      | refine LeO.bind ?_ (fun _ => ?_)
    · intro y0 y1 y2 y3 y4 y5 y6
      unfold changeforgelaw1_CommuteSameEffect.j1
      repeat' first
      | (with_reducible exact ih0 _ _ _ _ _ _)
      | (with_reducible exact ih1 _ _ _ _ _ _ _)
      | (with_reducible exact changeforgelaw1_exchanged.mono _)
      | (with_reducible exact commute_Commute.mono _ _ _)
      | (with_reducible exact LeO.refl _)
      | (with_reducible exact LeO.none _)
      | (with_reducible refine LeO.ite ?_ ?_)
      | (with_reducible refine LeO.bind ?_ (fun _ => ?_))
      | exact ih0 _ _ _ _ _ _
      | exact ih1 _ _ _ _ _ _ _
      | exact changeforgelaw1_exchanged.mono _
      | exact commute_Commute.mono _ _ _
      | exact LeO.none _
      | refine LeO.ite ?_ ?_
      | refine LeO.bind ?_ (fun _ => ?_)
theorem changeforgelaw1_CommuteSameEffect.mono : ∀ a0 a1 a2 k, LeO (changeforgelaw1_CommuteSameEffect.f k a0 a1 a2) (changeforgelaw1_CommuteSameEffect.f (k + 1) a0 a1 a2) := by
  intro a0 a1 a2 k
  obtain ⟨ih0, ih1⟩ := changeforgelaw1_CommuteSameEffect.mono_l k
  unfold changeforgelaw1_CommuteSameEffect.f
  repeat' first
      | (with_reducible exact ih0 _ _ _ _ _ _)
      | (with_reducible exact ih1 _ _ _ _ _ _ _)
      | (with_reducible exact changeforgelaw1_exchanged.mono _)
      | (with_reducible exact commute_Commute.mono _ _ _)
      | (with_reducible exact LeO.refl _)
      | (with_reducible exact LeO.none _)
      | (with_reducible refine LeO.ite ?_ ?_)
      | (with_reducible refine LeO.bind ?_ (fun _ => ?_))
      | exact ih0 _ _ _ _ _ _
      | exact ih1 _ _ _ _ _ _ _
      | exact changeforgelaw1_exchanged.mono _
      | exact commute_Commute.mono _ _ _
      | exact LeO.none _
      | refine LeO.ite ?_ ?_
      | refine LeO.bind ?_ (fun _ => ?_)
set_option maxHeartbeats 8000000 in
set_option maxRecDepth 100000 in
theorem changeforgelaw1_CommuteSameEffect.calls (k : Nat) (A0_0 : Option Addr) (c0_0 : Nat) (l0_0 : List (S47)) (A1_0 : Option Addr) (c1_0 : Nat) (l1_0 : List (S47)) (A2 : Option Addr) (c2 : Nat) (l2 : List ByteArray) (r : Bool) (w : World) (hr0_0 : Kd.C k47 w A0_0 l0_0.length l0_0) (hc0_0 : l0_0.length ≤ c0_0) (hr1_0 : Kd.C k47 w A1_0 l1_0.length l1_0) (hc1_0 : l1_0.length ≤ c1_0) (hr2 : Kd.C Kd.string w A2 l2.length l2) (hc2 : l2.length ≤ c2) (h : changeforgelaw1_CommuteSameEffect.f k l0_0 l1_0 l2 = some r) (hrt : r = true) :
    Calls Try.prog 12 #[.agg #[.slice A0_0 l0_0.length c0_0], .agg #[.slice A1_0 l1_0.length c1_0], .slice A2 l2.length c2] w fun e w' => e = .returned (.bool r) ∧ Below w.heap.size w w' := by
  have hu24 := Try.underlying24;have hu27 := Try.underlying27;have HR0_0 := Aside0.mk hr0_0;have HC0_0 := Aside0.mk hc0_0;clear hr0_0 hc0_0;have HR1_0 := Aside0.mk hr1_0;have HC1_0 := Aside0.mk hc1_0;clear hr1_0 hc1_0;have HR2 := Aside0.mk hr2;have HC2 := Aside0.mk hc2;clear hr2 hc2;have HB := Aside0.mk (Below.refl w.heap.size w);have H : ((commute_Commute.f k l0_0 l1_0).bind fun bt299 => (if bt299.2.2.2.1 = 0 then (changeforgelaw1_CommuteSameEffect.j0 k l2 (!bt299.2.2.1) l0_0 l1_0 bt299.1 bt299.2.1) else (changeforgelaw1_CommuteSameEffect.j0 k l2 true l0_0 l1_0 bt299.1 bt299.2.1))) = some r := h;clear h;replace H := Option.bind_eq_some_iff.mp H;obtain ⟨⟨t299, t302, t305, t306, t307⟩, A40, H⟩ := H;replace H : (if t306 = 0 then (changeforgelaw1_CommuteSameEffect.j0 k l2 (!t305) l0_0 l1_0 t299 t302) else (changeforgelaw1_CommuteSameEffect.j0 k l2 true l0_0 l1_0 t299 t302)) = some r := H;have A4 := Aside0.mk A40;clear A40;have HC5 := Aside0.mk H;clear H
  go_enter Try.func12, Try.ntmps12
  go_upto_region 2 with (first|((with_reducible refine gate_dst (N := 3) rfl ?_);refine bE 3 #[.slice A0_0 l0_0.length c0_0] 24 ?_;intro gb297 hg w6 hbox hb;have BK297 := Aside0.mk (hbox);have GW297 := gBe HB hg;have GE297 := gBe HB hg;replace HB := sBe HB hb;clear hb hbox hg)|((with_reducible refine gate_dst (N := 4) rfl ?_);refine bE 4 #[.slice A1_0 l1_0.length c1_0] 24 ?_;intro gb298 hg w7 hbox hb;have BK298 := Aside0.mk (hbox);have GW298 := gBe HB hg;have GE298 := gBe HB hg;have NB297_298 := nL BK297 hg;have NB298_297 := nG BK297 hg;replace BK297 := lJ BK297 hb;replace HB := sBe HB hb;clear hb hbox hg;have hnb8 := eq_false NB297_298.out;have hnc8 := eq_false NB298_297.out;have hcz9_0 := hC BK297 0 (.slice A0_0 l0_0.length c0_0);have hfz9_0 := blk_frozen BK297.out 0;have hcz10_0 := hC BK298 0 (.slice A1_0 l1_0.length c1_0);have hfz10_0 := blk_frozen BK298.out 0)|((with_reducible refine gate_callee (f := 27) rfl ?_);refine goesL_ (some 22) rfl rfl Try.func27 (by kernel_rfl) rfl #[.agg #[.slice A0_0 l0_0.length c0_0], .agg #[.slice A1_0 l1_0.length c1_0]] rfl mA ?_;(with_reducible refine (commute_Commute.calls k _ _ l0_0 _ _ l1_0 t299 t302 t305 t306 t307 _ ?side1 ?side2 ?side3 ?side4 A4.out).mono ?_);(case side1 => exact cBe HR0_0);(case side2 => exact HC0_0.out);(case side3 => exact cBe HR1_0);(case side4 => exact HC1_0.out);rintro e w11 ⟨v300, v303, rfl, ho0, ho1, hb⟩;refine ⟨_, rfl, ?_⟩;have HO301 := Aside0.mk (Kd.V_lower (Kd.V_mono (ok' := fun k_ => k_ ≠ gb297 ∧ k_ ≠ gb298) ho0 (fun k_ hk_ => ⟨(Kd.freshB (g := gb297) (o := .cells #[.slice A0_0 l0_0.length c0_0] 24 (0, 0)) kK k_ hk_), (Kd.freshB (g := gb298) (o := .cells #[.slice A1_0 l1_0.length c1_0] 24 (0, 0)) kK k_ hk_)⟩)) (below_size eB));have HO304 := Aside0.mk (Kd.V_lower (Kd.V_mono (ok' := fun k_ => k_ ≠ gb297 ∧ k_ ≠ gb298) ho1 (fun k_ hk_ => ⟨(Kd.freshB (g := gb297) (o := .cells #[.slice A0_0 l0_0.length c0_0] 24 (0, 0)) kK k_ hk_), (Kd.freshB (g := gb298) (o := .cells #[.slice A1_0 l1_0.length c1_0] 24 (0, 0)) kK k_ hk_)⟩)) (below_size eB));replace BK297 := lJ BK297 hb;replace BK298 := lJ BK298 hb;replace HB := sBe HB hb;(try clear hb ho0 ho1))|((with_reducible refine gate_dst (N := 7) rfl ?_);refine bE 7 #[.slice none 0 0] 24 ?_;intro gb308 hg w12 hbox hb;have BK308 := Aside0.mk (hbox);have GW308 := gBe HB hg;have GE308 := gBe HB hg;have NB297_308 := nL BK297 hg;have NB308_297 := nG BK297 hg;have NB298_308 := nL BK298 hg;have NB308_298 := nG BK298 hg;replace HO301 := vE HO301 gb308 hg hb;replace HO304 := vE HO304 gb308 hg hb;replace BK297 := lJ BK297 hb;replace BK298 := lJ BK298 hb;replace HB := sBe HB hb;clear hb hbox hg)|((with_reducible refine gate_dst (N := 8) rfl ?_);refine bE 8 #[.slice none 0 0] 24 ?_;intro gb309 hg w13 hbox hb;have BK309 := Aside0.mk (hbox);have GW309 := gBe HB hg;have GE309 := gBe HB hg;have NB297_309 := nL BK297 hg;have NB309_297 := nG BK297 hg;have NB298_309 := nL BK298 hg;have NB309_298 := nG BK298 hg;have NB308_309 := nL BK308 hg;have NB309_308 := nG BK308 hg;replace HO301 := vE HO301 gb309 hg hb;replace HO304 := vE HO304 gb309 hg hb;replace BK297 := lJ BK297 hb;replace BK298 := lJ BK298 hb;replace BK308 := lJ BK308 hb;replace HB := sBe HB hb;clear hb hbox hg)|((with_reducible refine gate_dst (N := 10) rfl ?_);refine bE 10 #[.int .i64 0, .int .i64 0] 27 ?_;intro gb310 hg w14 hbox hb;have BK310 := Aside0.mk (hbox);have GW310 := gBe HB hg;have GE310 := gBe HB hg;have NB297_310 := nL BK297 hg;have NB310_297 := nG BK297 hg;have NB298_310 := nL BK298 hg;have NB310_298 := nG BK298 hg;have NB308_310 := nL BK308 hg;have NB310_308 := nG BK308 hg;have NB309_310 := nL BK309 hg;have NB310_309 := nG BK309 hg;replace HO301 := vE HO301 gb310 hg hb;replace HO304 := vE HO304 gb310 hg hb;replace BK297 := lJ BK297 hb;replace BK298 := lJ BK298 hb;replace BK308 := lJ BK308 hb;replace BK309 := lJ BK309 hb;replace HB := sBe HB hb;clear hb hbox hg;obtain ⟨Ao15, co15, eo15⟩ := Kd.V_slice HO301.out;subst eo15;have hnb16 := eq_false NB308_297.out;have hnc16 := eq_false NB297_308.out;have hnb17 := eq_false NB308_298.out;have hnc17 := eq_false NB298_308.out;have hnb18 := eq_false NB308_309.out;have hnc18 := eq_false NB309_308.out;have hnb19 := eq_false NB308_310.out;have hnc19 := eq_false NB310_308.out;have hcz20_0 := hC BK308 0 (.slice none 0 0);have hfz20_0 := blk_frozen BK308.out 0;obtain ⟨Ao21, co21, eo21⟩ := Kd.V_slice HO304.out;subst eo21;have hnb22 := eq_false NB309_297.out;have hnc22 := eq_false NB297_309.out;have hnb23 := eq_false NB309_298.out;have hnc23 := eq_false NB298_309.out;have hnb24 := eq_false NB309_310.out;have hnc24 := eq_false NB310_309.out;have hcz25_0 := hC BK309 0 (.slice none 0 0);have hfz25_0 := blk_frozen BK309.out 0;have hnb26 := eq_false NB310_297.out;have hnc26 := eq_false NB297_310.out;have hnb27 := eq_false NB310_298.out;have hnc27 := eq_false NB298_310.out;have hcz28_0 := hC BK310 0 (.int .i64 0);have hcz28_1 := hC BK310 1 (.int .i64 0);have hfz28_0 := blk_frozen BK310.out 0;have hfz28_1 := blk_frozen BK310.out 1))
  (try simp only [Act.put, sA, sB, sC])
  go_cut [33] (fun v33 wc => ∃ (kq : Nat) (x33_4 : Bool), v33 = .bool x33_4 ∧ Aside0 (changeforgelaw1_CommuteSameEffect.j0 kq l2 x33_4 l0_0 l1_0 t299 t302 = some r) ∧ Aside0 (kq ≤ k) ∧ Aside0 (Kd.V k47 47 wc w.heap.size (fun k_ => k_ ≠ gb297 ∧ k_ ≠ gb298 ∧ k_ ≠ gb308 ∧ k_ ≠ gb309 ∧ k_ ≠ gb310) (.slice Ao15 t299.length co15) t299) ∧ Aside0 (Kd.V k47 47 wc w.heap.size (fun k_ => k_ ≠ gb297 ∧ k_ ≠ gb298 ∧ k_ ≠ gb308 ∧ k_ ≠ gb309 ∧ k_ ≠ gb310) (.slice Ao21 t302.length co21) t302) ∧ Aside0 (wc.heap[gb297]? = some (.cells #[(.slice A0_0 l0_0.length c0_0)] 24 (0, 0))) ∧ Aside0 (wc.heap[gb298]? = some (.cells #[(.slice A1_0 l1_0.length c1_0)] 24 (0, 0))) ∧ Aside0 (wc.heap[gb308]? = some (.cells #[(.slice Ao15 t299.length co15)] 24 (0, 0))) ∧ Aside0 (wc.heap[gb309]? = some (.cells #[(.slice Ao21 t302.length co21)] 24 (0, 0))) ∧ Aside0 (wc.heap[gb310]? = some (.cells #[.int .i64 t306, .int .i64 t307] 27 (0, 0))) ∧ Aside0 (Below w.heap.size w wc))
  case first =>
    have H := HC5.out;clear HC5
    by_cases c29 : t306 = 0
    · rw [if_pos c29] at H;have c29b0 : (t306 == 0) = true := beq_iff_eq.mpr c29;have c29b1 : (t306 != 0) = false := bne_eq_false_iff_eq.mpr c29;clear c29
      (first|rw [c29b0]|(simp only [i64_w, i32_w];rw [c29b0])|skip)
      have H' := Aside0.mk H;clear H;have hnb30 := eq_false NB310_297.out;have hnc30 := eq_false NB297_310.out;have hnb31 := eq_false NB310_298.out;have hnc31 := eq_false NB298_310.out;have hnb32 := eq_false NB310_308.out;have hnc32 := eq_false NB308_310.out;have hnb33 := eq_false NB310_309.out;have hnc33 := eq_false NB309_310.out;have hcz34_0 := hC BK310 0 (.int .i64 0);have hcz34_1 := hC BK310 1 (.int .i64 0);have hfz34_0 := blk_frozen BK310.out 0;have hfz34_1 := blk_frozen BK310.out 1
      go_wp2
      go_meet
      case rel => exact ⟨_, (!t305), (by first|rfl|(simp only [i64_w, i32_w];done)|(simp only [i64_w, i32_w];rfl)|(simp;done)|(simp [*];done)), H', ⟨by first|omega|exact Nat.le_refl _⟩, ⟨by (with_reducible repeat (first|apply Kd.V_alloc|apply Kd.V_drewN|apply Kd.V_drew));exact Kd.V_mono (Kd.V_far (p := ⟨gb310, 1, none⟩) (Kd.V_far (p := ⟨gb310, 0, none⟩) (Kd.V_far (p := ⟨gb309, 0, none⟩) (Kd.V_far (p := ⟨gb308, 0, none⟩) (Kd.V_mono (Kd.V_mono (Kd.V_mono HO301.out (fun k_ hk => (⟨hk, hk.1.1.2⟩ : _ ∧ k_ ≠ gb308))) (fun k_ hk => (⟨hk, hk.1.1.2⟩ : _ ∧ k_ ≠ gb309))) (fun k_ hk => (⟨hk, hk.1.1.2⟩ : _ ∧ k_ ≠ gb310))) (fun _ hk => hk.1.1.2) (.slice Ao15 t299.length co15)) (fun _ hk => hk.1.2) (.slice Ao21 t302.length co21)) (fun _ hk => hk.2) (.int .i64 t306)) (fun _ hk => hk.2) (.int .i64 t307)) (fun _ hk => ⟨hk.1.1.1.1.1.1.1, ⟨hk.1.1.1.1.1.1.2, ⟨hk.1.1.1.1.1.2, ⟨hk.1.1.1.1.2, hk.1.1.1.2⟩⟩⟩⟩)⟩, ⟨by (with_reducible repeat (first|apply Kd.V_alloc|apply Kd.V_drewN|apply Kd.V_drew));exact Kd.V_mono (Kd.V_far (p := ⟨gb310, 1, none⟩) (Kd.V_far (p := ⟨gb310, 0, none⟩) (Kd.V_far (p := ⟨gb309, 0, none⟩) (Kd.V_far (p := ⟨gb308, 0, none⟩) (Kd.V_mono (Kd.V_mono (Kd.V_mono HO304.out (fun k_ hk => (⟨hk, hk.1.1.2⟩ : _ ∧ k_ ≠ gb308))) (fun k_ hk => (⟨hk, hk.1.1.2⟩ : _ ∧ k_ ≠ gb309))) (fun k_ hk => (⟨hk, hk.1.1.2⟩ : _ ∧ k_ ≠ gb310))) (fun _ hk => hk.1.1.2) (.slice Ao15 t299.length co15)) (fun _ hk => hk.1.2) (.slice Ao21 t302.length co21)) (fun _ hk => hk.2) (.int .i64 t306)) (fun _ hk => hk.2) (.int .i64 t307)) (fun _ hk => ⟨hk.1.1.1.1.1.1.1, ⟨hk.1.1.1.1.1.1.2, ⟨hk.1.1.1.1.1.2, ⟨hk.1.1.1.1.2, hk.1.1.1.2⟩⟩⟩⟩)⟩, ⟨kK⟩, ⟨kK⟩, ⟨kK⟩, ⟨kK⟩, ⟨kK⟩, ⟨eB⟩⟩
    · rw [if_neg c29] at H;have c29b0 : (t306 == 0) = false := beq_eq_false_iff_ne.mpr c29;have c29b1 : (t306 != 0) = true := bne_iff_ne.mpr c29
      (first|rw [c29b0]|(simp only [i64_w, i32_w];rw [c29b0])|skip)
      have H' := Aside0.mk H;clear H;have hnb35 := eq_false NB310_297.out;have hnc35 := eq_false NB297_310.out;have hnb36 := eq_false NB310_298.out;have hnc36 := eq_false NB298_310.out;have hnb37 := eq_false NB310_308.out;have hnc37 := eq_false NB308_310.out;have hnb38 := eq_false NB310_309.out;have hnc38 := eq_false NB309_310.out;have hcz39_0 := hC BK310 0 (.int .i64 0);have hcz39_1 := hC BK310 1 (.int .i64 0);have hfz39_0 := blk_frozen BK310.out 0;have hfz39_1 := blk_frozen BK310.out 1
      go_wp2
      go_meet
      case rel => exact ⟨_, (true), (by first|rfl|(simp only [i64_w, i32_w];done)|(simp only [i64_w, i32_w];rfl)|(simp;done)|(simp [*];done)), H', ⟨by first|omega|exact Nat.le_refl _⟩, ⟨by (with_reducible repeat (first|apply Kd.V_alloc|apply Kd.V_drewN|apply Kd.V_drew));exact Kd.V_mono (Kd.V_far (p := ⟨gb310, 1, none⟩) (Kd.V_far (p := ⟨gb310, 0, none⟩) (Kd.V_far (p := ⟨gb309, 0, none⟩) (Kd.V_far (p := ⟨gb308, 0, none⟩) (Kd.V_mono (Kd.V_mono (Kd.V_mono HO301.out (fun k_ hk => (⟨hk, hk.1.1.2⟩ : _ ∧ k_ ≠ gb308))) (fun k_ hk => (⟨hk, hk.1.1.2⟩ : _ ∧ k_ ≠ gb309))) (fun k_ hk => (⟨hk, hk.1.1.2⟩ : _ ∧ k_ ≠ gb310))) (fun _ hk => hk.1.1.2) (.slice Ao15 t299.length co15)) (fun _ hk => hk.1.2) (.slice Ao21 t302.length co21)) (fun _ hk => hk.2) (.int .i64 t306)) (fun _ hk => hk.2) (.int .i64 t307)) (fun _ hk => ⟨hk.1.1.1.1.1.1.1, ⟨hk.1.1.1.1.1.1.2, ⟨hk.1.1.1.1.1.2, ⟨hk.1.1.1.1.2, hk.1.1.1.2⟩⟩⟩⟩)⟩, ⟨by (with_reducible repeat (first|apply Kd.V_alloc|apply Kd.V_drewN|apply Kd.V_drew));exact Kd.V_mono (Kd.V_far (p := ⟨gb310, 1, none⟩) (Kd.V_far (p := ⟨gb310, 0, none⟩) (Kd.V_far (p := ⟨gb309, 0, none⟩) (Kd.V_far (p := ⟨gb308, 0, none⟩) (Kd.V_mono (Kd.V_mono (Kd.V_mono HO304.out (fun k_ hk => (⟨hk, hk.1.1.2⟩ : _ ∧ k_ ≠ gb308))) (fun k_ hk => (⟨hk, hk.1.1.2⟩ : _ ∧ k_ ≠ gb309))) (fun k_ hk => (⟨hk, hk.1.1.2⟩ : _ ∧ k_ ≠ gb310))) (fun _ hk => hk.1.1.2) (.slice Ao15 t299.length co15)) (fun _ hk => hk.1.2) (.slice Ao21 t302.length co21)) (fun _ hk => hk.2) (.int .i64 t306)) (fun _ hk => hk.2) (.int .i64 t307)) (fun _ hk => ⟨hk.1.1.1.1.1.1.1, ⟨hk.1.1.1.1.1.1.2, ⟨hk.1.1.1.1.1.2, ⟨hk.1.1.1.1.2, hk.1.1.1.2⟩⟩⟩⟩)⟩, ⟨kK⟩, ⟨kK⟩, ⟨kK⟩, ⟨kK⟩, ⟨kK⟩, ⟨eB⟩⟩
  case rest =>
    clear HC5
    try clear c1
    try clear c2
    try clear p2
    try clear c3
    try clear c8
    try clear c12
    try clear c16
    try clear c17
    try clear c18
    try clear c19
    try clear c22
    try clear c23
    try clear c24
    try clear c26
    try clear c27
    try clear c29
    try clear c29b0
    try clear c29b1
    try clear c30
    try clear c31
    try clear c32
    try clear c33
    try clear c35
    try clear c36
    try clear c37
    try clear c38
    try clear hcz10_0
    try clear hcz20_0
    try clear hcz25_0
    try clear hcz28_0
    try clear hcz28_1
    try clear hcz34_0
    try clear hcz34_1
    try clear hcz39_0
    try clear hcz39_1
    try clear hcz9_0
    try clear hfz10_0
    try clear hfz20_0
    try clear hfz25_0
    try clear hfz28_0
    try clear hfz28_1
    try clear hfz34_0
    try clear hfz34_1
    try clear hfz39_0
    try clear hfz39_1
    try clear hfz9_0
    obtain ⟨kq, x33_4, rfl, HA, HJ4, HO_309000, HO_310000, BK297, BK298, BK308, BK309, BK310, HB⟩ := hcut
    cases kq with
    | zero => exact absurd HA.out (by simp [changeforgelaw1_CommuteSameEffect.j0])
    | succ kj4 =>
      have H := HA.out;clear HA;simp only [changeforgelaw1_CommuteSameEffect.j0] at H
      by_cases c40 : x33_4 = true
      · subst c40;have H1 : ((changeforgelaw1_exchanged.f kj4).bind fun t311 => (some t311)) = some r := (by rw [if_pos rfl] at H;exact H);clear H;have H := H1;clear H1;replace H := Option.bind_eq_some_iff.mp H;obtain ⟨t311, A410, H⟩ := H;replace H : (some t311) = some r := H;have A41 := Aside0.mk A410;clear A410;obtain rfl := Option.some.inj H
        go_wp2_with (first|((with_reducible refine gate_callee (f := 28) rfl ?_);refine goesL_ (some 34) rfl rfl Try.func28 (by kernel_rfl) rfl #[] rfl mA ?_;(with_reducible refine (changeforgelaw1_exchanged.calls kj4  t311 _ A41.out hrt).mono ?_);rintro e w42 ⟨rfl, hb⟩;refine ⟨_, rfl, ?_⟩;replace HO_309000 := Aside0.mk (Kd.V_below (vK HO_309000) hb);replace HO_310000 := Aside0.mk (Kd.V_below (vK HO_310000) hb);replace BK297 := lJ BK297 hb;replace BK298 := lJ BK298 hb;replace BK308 := lJ BK308 hb;replace BK309 := lJ BK309 hb;replace BK310 := lJ BK310 hb;replace HB := sBe HB hb;(try clear hb)))
        go_ret
        exact ⟨rW, eB⟩
      · replace c40 := Bool.eq_false_iff.mpr c40;subst c40;have H1 : ((textpatch_Apply.f l0_0 l2).bind fun bt312 => ((textpatch_Apply.f l1_0 bt312.1).bind fun bt318 => ((textpatch_Apply.f t299 l2).bind fun bt324 => ((textpatch_Apply.f t302 bt324.1).bind fun bt330 => (if bt312.2.1 = 0 then (if bt318.2.1 = 0 then (if bt324.2.1 = 10 then (changeforgelaw1_CommuteSameEffect.j1 kj4 bt318.1 bt330.1 true bt324.2.1 bt324.2.2 bt330.2.1 bt330.2.2) else (changeforgelaw1_CommuteSameEffect.j1 kj4 bt318.1 bt330.1 (bt330.2.1 == 10) bt324.2.1 bt324.2.2 bt330.2.1 bt330.2.2)) else (changeforgelaw1_CommuteSameEffect.j1 kj4 bt318.1 bt330.1 true bt324.2.1 bt324.2.2 bt330.2.1 bt330.2.2)) else (changeforgelaw1_CommuteSameEffect.j1 kj4 bt318.1 bt330.1 true bt324.2.1 bt324.2.2 bt330.2.1 bt330.2.2)))))) = some r := (by rw [if_neg (show ¬ (false = true) by decide)] at H;exact H);clear H;have H := H1;clear H1;replace H := Option.bind_eq_some_iff.mp H;obtain ⟨⟨t312, t315, t316⟩, A430, H⟩ := H;replace H : ((textpatch_Apply.f l1_0 t312).bind fun bt318 => ((textpatch_Apply.f t299 l2).bind fun bt324 => ((textpatch_Apply.f t302 bt324.1).bind fun bt330 => (if t315 = 0 then (if bt318.2.1 = 0 then (if bt324.2.1 = 10 then (changeforgelaw1_CommuteSameEffect.j1 kj4 bt318.1 bt330.1 true bt324.2.1 bt324.2.2 bt330.2.1 bt330.2.2) else (changeforgelaw1_CommuteSameEffect.j1 kj4 bt318.1 bt330.1 (bt330.2.1 == 10) bt324.2.1 bt324.2.2 bt330.2.1 bt330.2.2)) else (changeforgelaw1_CommuteSameEffect.j1 kj4 bt318.1 bt330.1 true bt324.2.1 bt324.2.2 bt330.2.1 bt330.2.2)) else (changeforgelaw1_CommuteSameEffect.j1 kj4 bt318.1 bt330.1 true bt324.2.1 bt324.2.2 bt330.2.1 bt330.2.2))))) = some r := H;have A43 := Aside0.mk A430;clear A430;replace H := Option.bind_eq_some_iff.mp H;obtain ⟨⟨t318, t321, t322⟩, A440, H⟩ := H;replace H : ((textpatch_Apply.f t299 l2).bind fun bt324 => ((textpatch_Apply.f t302 bt324.1).bind fun bt330 => (if t315 = 0 then (if t321 = 0 then (if bt324.2.1 = 10 then (changeforgelaw1_CommuteSameEffect.j1 kj4 t318 bt330.1 true bt324.2.1 bt324.2.2 bt330.2.1 bt330.2.2) else (changeforgelaw1_CommuteSameEffect.j1 kj4 t318 bt330.1 (bt330.2.1 == 10) bt324.2.1 bt324.2.2 bt330.2.1 bt330.2.2)) else (changeforgelaw1_CommuteSameEffect.j1 kj4 t318 bt330.1 true bt324.2.1 bt324.2.2 bt330.2.1 bt330.2.2)) else (changeforgelaw1_CommuteSameEffect.j1 kj4 t318 bt330.1 true bt324.2.1 bt324.2.2 bt330.2.1 bt330.2.2)))) = some r := H;have A44 := Aside0.mk A440;clear A440;replace H := Option.bind_eq_some_iff.mp H;obtain ⟨⟨t324, t327, t328⟩, A450, H⟩ := H;replace H : ((textpatch_Apply.f t302 t324).bind fun bt330 => (if t315 = 0 then (if t321 = 0 then (if t327 = 10 then (changeforgelaw1_CommuteSameEffect.j1 kj4 t318 bt330.1 true t327 t328 bt330.2.1 bt330.2.2) else (changeforgelaw1_CommuteSameEffect.j1 kj4 t318 bt330.1 (bt330.2.1 == 10) t327 t328 bt330.2.1 bt330.2.2)) else (changeforgelaw1_CommuteSameEffect.j1 kj4 t318 bt330.1 true t327 t328 bt330.2.1 bt330.2.2)) else (changeforgelaw1_CommuteSameEffect.j1 kj4 t318 bt330.1 true t327 t328 bt330.2.1 bt330.2.2))) = some r := H;have A45 := Aside0.mk A450;clear A450;replace H := Option.bind_eq_some_iff.mp H;obtain ⟨⟨t330, t333, t334⟩, A460, H⟩ := H;replace H : (if t315 = 0 then (if t321 = 0 then (if t327 = 10 then (changeforgelaw1_CommuteSameEffect.j1 kj4 t318 t330 true t327 t328 t333 t334) else (changeforgelaw1_CommuteSameEffect.j1 kj4 t318 t330 (t333 == 10) t327 t328 t333 t334)) else (changeforgelaw1_CommuteSameEffect.j1 kj4 t318 t330 true t327 t328 t333 t334)) else (changeforgelaw1_CommuteSameEffect.j1 kj4 t318 t330 true t327 t328 t333 t334)) = some r := H;have A46 := Aside0.mk A460;clear A460;have HC47 := Aside0.mk H;clear H;have hnb48 := eq_false NB297_298.out;have hnc48 := eq_false NB298_297.out;have hnb49 := eq_false NB297_308.out;have hnc49 := eq_false NB308_297.out;have hnb50 := eq_false NB297_309.out;have hnc50 := eq_false NB309_297.out;have hnb51 := eq_false NB297_310.out;have hnc51 := eq_false NB310_297.out;have hcz52_0 : wc.cell? ⟨gb297, 0, none⟩ = some (.slice A0_0 l0_0.length c0_0) := (blk_cell BK297.out 0).trans rfl;have hfz52_0 := blk_frozen BK297.out 0
        go_upto_region 8 with (first|((with_reducible refine gate_callee (f := 15) rfl ?_);refine goesL_ (some 38) rfl rfl Try.func15 (by kernel_rfl) rfl #[.agg #[.slice A0_0 l0_0.length c0_0], .slice A2 l2.length c2] rfl mA ?_;(with_reducible refine (textpatch_Apply.calls _ _ l0_0 _ _ l2 t312 t315 t316 _ ?side1 ?side2 ?side3 ?side4 A43.out).mono ?_);(case side1 => exact cBe HR0_0);(case side2 => exact HC0_0.out);(case side3 => exact cBe HR2);(case side4 => exact HC2.out);rintro e w53 ⟨v313, rfl, ho0, hb⟩;refine ⟨_, rfl, ?_⟩;have HO314 := Aside0.mk (Kd.R_lower ho0 (below_size eB));replace HO_309000 := Aside0.mk (Kd.V_elder' (vK HO_309000) (Kd.R_base ho0) hb);replace HO_310000 := Aside0.mk (Kd.V_elder' (vK HO_310000) (Kd.R_base ho0) hb);replace BK297 := lJ BK297 hb;replace BK298 := lJ BK298 hb;replace BK308 := lJ BK308 hb;replace BK309 := lJ BK309 hb;replace BK310 := lJ BK310 hb;replace HB := sBe HB hb;(try clear hb ho0))|((with_reducible refine gate_dst (N := 12) rfl ?_);refine bE 12 #[.int .i64 0, .int .i64 0] 27 ?_;intro gb317 hg w54 hbox hb;have BK317 := Aside0.mk (hbox);have GW317 := gBe HB hg;have GE317 := gBe HB hg;have NB297_317 := nL BK297 hg;have NB317_297 := nG BK297 hg;have NB298_317 := nL BK298 hg;have NB317_298 := nG BK298 hg;have NB308_317 := nL BK308 hg;have NB317_308 := nG BK308 hg;have NB309_317 := nL BK309 hg;have NB317_309 := nG BK309 hg;have NB310_317 := nL BK310 hg;have NB317_310 := nG BK310 hg;replace HO_309000 := vE HO_309000 gb317 hg hb;replace HO_310000 := vE HO_310000 gb317 hg hb;replace HO314 := rL HO314 hb;replace BK297 := lJ BK297 hb;replace BK298 := lJ BK298 hb;replace BK308 := lJ BK308 hb;replace BK309 := lJ BK309 hb;replace BK310 := lJ BK310 hb;replace HB := sBe HB hb;clear hb hbox hg;have hnb55 := eq_false NB317_297.out;have hnc55 := eq_false NB297_317.out;have hnb56 := eq_false NB317_298.out;have hnc56 := eq_false NB298_317.out;have hnb57 := eq_false NB317_308.out;have hnc57 := eq_false NB308_317.out;have hnb58 := eq_false NB317_309.out;have hnc58 := eq_false NB309_317.out;have hnb59 := eq_false NB317_310.out;have hnc59 := eq_false NB310_317.out;have hcz60_0 := hC BK317 0 (.int .i64 0);have hcz60_1 := hC BK317 1 (.int .i64 0);have hfz60_0 := blk_frozen BK317.out 0;have hfz60_1 := blk_frozen BK317.out 1;have hnb61 := eq_false NB298_308.out;have hnc61 := eq_false NB308_298.out;have hnb62 := eq_false NB298_309.out;have hnc62 := eq_false NB309_298.out;have hnb63 := eq_false NB298_310.out;have hnc63 := eq_false NB310_298.out;have hcz64_0 := hC BK298 0 (.slice A1_0 l1_0.length c1_0);have hfz64_0 := blk_frozen BK298.out 0;obtain ⟨Ao65, co65, eo65⟩ := Kd.R_slice HO314.out;subst eo65)|((with_reducible refine gate_callee (f := 15) rfl ?_);refine goesL_ (some 44) rfl rfl Try.func15 (by kernel_rfl) rfl #[.agg #[.slice A1_0 l1_0.length c1_0], .slice Ao65 t312.length co65] rfl mA ?_;(with_reducible refine (textpatch_Apply.calls _ _ l1_0 _ _ t312 t318 t321 t322 _ ?side1 ?side2 ?side3 ?side4 A44.out).mono ?_);(case side1 => exact Kd.C_below HR1_0.out eB);(case side2 => exact HC1_0.out);(case side3 => refine (Kd.R_reads' (e := 9) (base := w.heap.size) (ok := fun k_ => True) (n := t312.length) (c := co65) ?_).2.2;exact (by (with_reducible repeat first|apply rA|apply rN|apply rD);exact (Kd.R_mono (Kd.R_far (p := ⟨gb317, 1, none⟩) (Kd.R_far (p := ⟨gb317, 0, none⟩) (Kd.R_types HO314.out BK317.out (by decide)) (fun _ hk => hk.2) (.int .i64 t315)) (fun _ hk => hk.2) (.int .i64 t316)) (fun _ h_ => h_.1))));(case side4 => exact (Kd.R_reads' HO314.out).2.1);rintro e w66 ⟨v319, rfl, ho0, hb⟩;refine ⟨_, rfl, ?_⟩;have HO320 := Aside0.mk (Kd.R_lower (Kd.R_new' ho0 (Kd.R_lt (by (with_reducible repeat first|apply rA|apply rN|apply rD);exact (Kd.R_mono (Kd.R_far (p := ⟨gb317, 1, none⟩) (Kd.R_far (p := ⟨gb317, 0, none⟩) (Kd.R_types HO314.out BK317.out (by decide)) (fun _ hk => hk.2) (.int .i64 t315)) (fun _ hk => hk.2) (.int .i64 t316)) (fun _ h_ => h_.1))))) (below_size eB));replace HO_309000 := Aside0.mk (Kd.V_elder' (by (with_reducible repeat (first|apply Kd.V_alloc|apply Kd.V_drewN|apply Kd.V_drew));exact (Kd.V_mono (Kd.V_far (p := ⟨gb317, 1, none⟩) (Kd.V_far (p := ⟨gb317, 0, none⟩) (Kd.V_mono HO_309000.out (fun k_ hk => (⟨hk, hk.2⟩ : _ ∧ k_ ≠ gb317))) (fun _ hk => hk.2) (.int .i64 t315)) (fun _ hk => hk.2) (.int .i64 t316)) (fun _ h_ => h_.1))) (Kd.R_base ho0) hb);replace HO_310000 := Aside0.mk (Kd.V_elder' (by (with_reducible repeat (first|apply Kd.V_alloc|apply Kd.V_drewN|apply Kd.V_drew));exact (Kd.V_mono (Kd.V_far (p := ⟨gb317, 1, none⟩) (Kd.V_far (p := ⟨gb317, 0, none⟩) (Kd.V_mono HO_310000.out (fun k_ hk => (⟨hk, hk.2⟩ : _ ∧ k_ ≠ gb317))) (fun _ hk => hk.2) (.int .i64 t315)) (fun _ hk => hk.2) (.int .i64 t316)) (fun _ h_ => h_.1))) (Kd.R_base ho0) hb);replace HO314 := Aside0.mk (Kd.R_elder' (by (with_reducible repeat first|apply rA|apply rN|apply rD);exact (Kd.R_mono (Kd.R_far (p := ⟨gb317, 1, none⟩) (Kd.R_far (p := ⟨gb317, 0, none⟩) (Kd.R_types HO314.out BK317.out (by decide)) (fun _ hk => hk.2) (.int .i64 t315)) (fun _ hk => hk.2) (.int .i64 t316)) (fun _ h_ => h_.1))) (Kd.R_base ho0) hb);replace BK297 := lJ BK297 hb;replace BK298 := lJ BK298 hb;replace BK308 := lJ BK308 hb;replace BK309 := lJ BK309 hb;replace BK310 := lJ BK310 hb;replace BK317 := lK gb317 27 #[.int .i64 t315, .int .i64 t316] hb;replace HB := sBe HB hb;(try clear hb ho0))|((with_reducible refine gate_dst (N := 14) rfl ?_);refine bE 14 #[.int .i64 0, .int .i64 0] 27 ?_;intro gb323 hg w67 hbox hb;have BK323 := Aside0.mk (hbox);have GW323 := gBe HB hg;have GE323 := gBe HB hg;have NB297_323 := nL BK297 hg;have NB323_297 := nG BK297 hg;have NB298_323 := nL BK298 hg;have NB323_298 := nG BK298 hg;have NB308_323 := nL BK308 hg;have NB323_308 := nG BK308 hg;have NB309_323 := nL BK309 hg;have NB323_309 := nG BK309 hg;have NB310_323 := nL BK310 hg;have NB323_310 := nG BK310 hg;have NB317_323 := nL BK317 hg;have NB323_317 := nG BK317 hg;replace HO_309000 := vE HO_309000 gb323 hg hb;replace HO_310000 := vE HO_310000 gb323 hg hb;replace HO314 := rL HO314 hb;replace HO320 := rL HO320 hb;replace BK297 := lJ BK297 hb;replace BK298 := lJ BK298 hb;replace BK308 := lJ BK308 hb;replace BK309 := lJ BK309 hb;replace BK310 := lJ BK310 hb;replace BK317 := lJ BK317 hb;replace HB := sBe HB hb;clear hb hbox hg;have hnb68 := eq_false NB323_297.out;have hnc68 := eq_false NB297_323.out;have hnb69 := eq_false NB323_298.out;have hnc69 := eq_false NB298_323.out;have hnb70 := eq_false NB323_308.out;have hnc70 := eq_false NB308_323.out;have hnb71 := eq_false NB323_309.out;have hnc71 := eq_false NB309_323.out;have hnb72 := eq_false NB323_310.out;have hnc72 := eq_false NB310_323.out;have hnb73 := eq_false NB323_317.out;have hnc73 := eq_false NB317_323.out;have hcz74_0 := hC BK323 0 (.int .i64 0);have hcz74_1 := hC BK323 1 (.int .i64 0);have hfz74_0 := blk_frozen BK323.out 0;have hfz74_1 := blk_frozen BK323.out 1;have hnb75 := eq_false NB308_309.out;have hnc75 := eq_false NB309_308.out;have hnb76 := eq_false NB308_310.out;have hnc76 := eq_false NB310_308.out;have hcz77_0 := hC BK308 0 (.slice Ao15 t299.length co15);have hfz77_0 := blk_frozen BK308.out 0)|((with_reducible refine gate_callee (f := 15) rfl ?_);refine goesL_ (some 50) rfl rfl Try.func15 (by kernel_rfl) rfl #[.agg #[.slice Ao15 t299.length co15], .slice A2 l2.length c2] rfl mA ?_;(with_reducible refine (textpatch_Apply.calls _ _ t299 _ _ l2 t324 t327 t328 _ ?side1 ?side2 ?side3 ?side4 A45.out).mono ?_);(case side1 => refine (Kd.V_reads' (e := 47) (base := w.heap.size) (ok := fun k_ => (((((k_ ≠ gb297 ∧ (k_ ≠ gb298 ∧ (k_ ≠ gb308 ∧ (k_ ≠ gb309 ∧ k_ ≠ gb310)))) ∧ some k_ ≠ ob Ao65 t312.length co65) ∧ k_ ≠ gb317) ∧ some k_ ≠ (v319 : Value).ownBlock) ∧ k_ ≠ gb323)) (n := t299.length) (c := co15) ?_).2.2;exact (by (with_reducible repeat (first|apply Kd.V_alloc|apply Kd.V_drewN|apply Kd.V_drew));exact (Kd.V_mono (Kd.V_far (p := ⟨gb323, 1, none⟩) (Kd.V_far (p := ⟨gb323, 0, none⟩) (Kd.V_mono HO_309000.out (fun k_ hk => (⟨hk, hk.2⟩ : _ ∧ k_ ≠ gb323))) (fun _ hk => hk.2) (.int .i64 t321)) (fun _ hk => hk.2) (.int .i64 t322)) (fun _ h_ => h_.1))));(case side2 => exact (Kd.V_reads' HO_309000.out).2.1);(case side3 => exact Kd.C_below HR2.out eB);(case side4 => exact HC2.out);rintro e w78 ⟨v325, rfl, ho0, hb⟩;refine ⟨_, rfl, ?_⟩;have HO326 := Aside0.mk (Kd.R_lower (Kd.R_new' (Kd.R_new' ho0 (Kd.R_lt (by (with_reducible repeat first|apply rA|apply rN|apply rD);exact (Kd.R_mono (Kd.R_far (p := ⟨gb323, 1, none⟩) (Kd.R_far (p := ⟨gb323, 0, none⟩) (Kd.R_types HO314.out BK323.out (by decide)) (fun _ hk => hk.2) (.int .i64 t321)) (fun _ hk => hk.2) (.int .i64 t322)) (fun _ h_ => h_.1))))) (Kd.R_lt (by (with_reducible repeat first|apply rA|apply rN|apply rD);exact (Kd.R_mono (Kd.R_far (p := ⟨gb323, 1, none⟩) (Kd.R_far (p := ⟨gb323, 0, none⟩) (Kd.R_types HO320.out BK323.out (by decide)) (fun _ hk => hk.2) (.int .i64 t321)) (fun _ hk => hk.2) (.int .i64 t322)) (fun _ h_ => h_.1))))) (below_size eB));replace HO_309000 := Aside0.mk (Kd.V_elder' (by (with_reducible repeat (first|apply Kd.V_alloc|apply Kd.V_drewN|apply Kd.V_drew));exact (Kd.V_mono (Kd.V_far (p := ⟨gb323, 1, none⟩) (Kd.V_far (p := ⟨gb323, 0, none⟩) (Kd.V_mono HO_309000.out (fun k_ hk => (⟨hk, hk.2⟩ : _ ∧ k_ ≠ gb323))) (fun _ hk => hk.2) (.int .i64 t321)) (fun _ hk => hk.2) (.int .i64 t322)) (fun _ h_ => h_.1))) (Kd.R_base ho0) hb);replace HO_310000 := Aside0.mk (Kd.V_elder' (by (with_reducible repeat (first|apply Kd.V_alloc|apply Kd.V_drewN|apply Kd.V_drew));exact (Kd.V_mono (Kd.V_far (p := ⟨gb323, 1, none⟩) (Kd.V_far (p := ⟨gb323, 0, none⟩) (Kd.V_mono HO_310000.out (fun k_ hk => (⟨hk, hk.2⟩ : _ ∧ k_ ≠ gb323))) (fun _ hk => hk.2) (.int .i64 t321)) (fun _ hk => hk.2) (.int .i64 t322)) (fun _ h_ => h_.1))) (Kd.R_base ho0) hb);replace HO314 := Aside0.mk (Kd.R_elder' (by (with_reducible repeat first|apply rA|apply rN|apply rD);exact (Kd.R_mono (Kd.R_far (p := ⟨gb323, 1, none⟩) (Kd.R_far (p := ⟨gb323, 0, none⟩) (Kd.R_types HO314.out BK323.out (by decide)) (fun _ hk => hk.2) (.int .i64 t321)) (fun _ hk => hk.2) (.int .i64 t322)) (fun _ h_ => h_.1))) (Kd.R_base ho0) hb);replace HO320 := Aside0.mk (Kd.R_elder' (by (with_reducible repeat first|apply rA|apply rN|apply rD);exact (Kd.R_mono (Kd.R_far (p := ⟨gb323, 1, none⟩) (Kd.R_far (p := ⟨gb323, 0, none⟩) (Kd.R_types HO320.out BK323.out (by decide)) (fun _ hk => hk.2) (.int .i64 t321)) (fun _ hk => hk.2) (.int .i64 t322)) (fun _ h_ => h_.1))) (Kd.R_base ho0) hb);replace BK297 := lJ BK297 hb;replace BK298 := lJ BK298 hb;replace BK308 := lJ BK308 hb;replace BK309 := lJ BK309 hb;replace BK310 := lJ BK310 hb;replace BK317 := lJ BK317 hb;replace BK323 := lK gb323 27 #[.int .i64 t321, .int .i64 t322] hb;replace HB := sBe HB hb;(try clear hb ho0))|((with_reducible refine gate_dst (N := 16) rfl ?_);refine bE 16 #[.int .i64 0, .int .i64 0] 27 ?_;intro gb329 hg w79 hbox hb;have BK329 := Aside0.mk (hbox);have GW329 := gBe HB hg;have GE329 := gBe HB hg;have NB297_329 := nL BK297 hg;have NB329_297 := nG BK297 hg;have NB298_329 := nL BK298 hg;have NB329_298 := nG BK298 hg;have NB308_329 := nL BK308 hg;have NB329_308 := nG BK308 hg;have NB309_329 := nL BK309 hg;have NB329_309 := nG BK309 hg;have NB310_329 := nL BK310 hg;have NB329_310 := nG BK310 hg;have NB317_329 := nL BK317 hg;have NB329_317 := nG BK317 hg;have NB323_329 := nL BK323 hg;have NB329_323 := nG BK323 hg;replace HO_309000 := vE HO_309000 gb329 hg hb;replace HO_310000 := vE HO_310000 gb329 hg hb;replace HO314 := rL HO314 hb;replace HO320 := rL HO320 hb;replace HO326 := rL HO326 hb;replace BK297 := lJ BK297 hb;replace BK298 := lJ BK298 hb;replace BK308 := lJ BK308 hb;replace BK309 := lJ BK309 hb;replace BK310 := lJ BK310 hb;replace BK317 := lJ BK317 hb;replace BK323 := lJ BK323 hb;replace HB := sBe HB hb;clear hb hbox hg;have hnb80 := eq_false NB329_297.out;have hnc80 := eq_false NB297_329.out;have hnb81 := eq_false NB329_298.out;have hnc81 := eq_false NB298_329.out;have hnb82 := eq_false NB329_308.out;have hnc82 := eq_false NB308_329.out;have hnb83 := eq_false NB329_309.out;have hnc83 := eq_false NB309_329.out;have hnb84 := eq_false NB329_310.out;have hnc84 := eq_false NB310_329.out;have hnb85 := eq_false NB329_317.out;have hnc85 := eq_false NB317_329.out;have hnb86 := eq_false NB329_323.out;have hnc86 := eq_false NB323_329.out;have hcz87_0 := hC BK329 0 (.int .i64 0);have hcz87_1 := hC BK329 1 (.int .i64 0);have hfz87_0 := blk_frozen BK329.out 0;have hfz87_1 := blk_frozen BK329.out 1;have hnb88 := eq_false NB309_310.out;have hnc88 := eq_false NB310_309.out;have hcz89_0 := hC BK309 0 (.slice Ao21 t302.length co21);have hfz89_0 := blk_frozen BK309.out 0;obtain ⟨Ao90, co90, eo90⟩ := Kd.R_slice HO326.out;subst eo90)|((with_reducible refine gate_callee (f := 15) rfl ?_);refine goesL_ (some 56) rfl rfl Try.func15 (by kernel_rfl) rfl #[.agg #[.slice Ao21 t302.length co21], .slice Ao90 t324.length co90] rfl mA ?_;(with_reducible refine (textpatch_Apply.calls _ _ t302 _ _ t324 t330 t333 t334 _ ?side1 ?side2 ?side3 ?side4 A46.out).mono ?_);(case side1 => refine (Kd.V_reads' (e := 47) (base := w.heap.size) (ok := fun k_ => (((((((k_ ≠ gb297 ∧ (k_ ≠ gb298 ∧ (k_ ≠ gb308 ∧ (k_ ≠ gb309 ∧ k_ ≠ gb310)))) ∧ some k_ ≠ ob Ao65 t312.length co65) ∧ k_ ≠ gb317) ∧ some k_ ≠ (v319 : Value).ownBlock) ∧ k_ ≠ gb323) ∧ some k_ ≠ ob Ao90 t324.length co90) ∧ k_ ≠ gb329)) (n := t302.length) (c := co21) ?_).2.2;exact (by (with_reducible repeat (first|apply Kd.V_alloc|apply Kd.V_drewN|apply Kd.V_drew));exact (Kd.V_mono (Kd.V_far (p := ⟨gb329, 1, none⟩) (Kd.V_far (p := ⟨gb329, 0, none⟩) (Kd.V_mono HO_310000.out (fun k_ hk => (⟨hk, hk.2⟩ : _ ∧ k_ ≠ gb329))) (fun _ hk => hk.2) (.int .i64 t327)) (fun _ hk => hk.2) (.int .i64 t328)) (fun _ h_ => h_.1))));(case side2 => exact (Kd.V_reads' HO_310000.out).2.1);(case side3 => refine (Kd.R_reads' (e := 9) (base := w.heap.size) (ok := fun k_ => ((True ∧ some k_ ≠ ob Ao65 t312.length co65) ∧ some k_ ≠ (v319 : Value).ownBlock)) (n := t324.length) (c := co90) ?_).2.2;exact (by (with_reducible repeat first|apply rA|apply rN|apply rD);exact (Kd.R_mono (Kd.R_far (p := ⟨gb329, 1, none⟩) (Kd.R_far (p := ⟨gb329, 0, none⟩) (Kd.R_types HO326.out BK329.out (by decide)) (fun _ hk => hk.2) (.int .i64 t327)) (fun _ hk => hk.2) (.int .i64 t328)) (fun _ h_ => h_.1))));(case side4 => exact (Kd.R_reads' HO326.out).2.1);rintro e w91 ⟨v331, rfl, ho0, hb⟩;refine ⟨_, rfl, ?_⟩;have HO332 := Aside0.mk (Kd.R_lower (Kd.R_new' (Kd.R_new' (Kd.R_new' ho0 (Kd.R_lt (by (with_reducible repeat first|apply rA|apply rN|apply rD);exact (Kd.R_mono (Kd.R_far (p := ⟨gb329, 1, none⟩) (Kd.R_far (p := ⟨gb329, 0, none⟩) (Kd.R_types HO314.out BK329.out (by decide)) (fun _ hk => hk.2) (.int .i64 t327)) (fun _ hk => hk.2) (.int .i64 t328)) (fun _ h_ => h_.1))))) (Kd.R_lt (by (with_reducible repeat first|apply rA|apply rN|apply rD);exact (Kd.R_mono (Kd.R_far (p := ⟨gb329, 1, none⟩) (Kd.R_far (p := ⟨gb329, 0, none⟩) (Kd.R_types HO320.out BK329.out (by decide)) (fun _ hk => hk.2) (.int .i64 t327)) (fun _ hk => hk.2) (.int .i64 t328)) (fun _ h_ => h_.1))))) (Kd.R_lt (by (with_reducible repeat first|apply rA|apply rN|apply rD);exact (Kd.R_mono (Kd.R_far (p := ⟨gb329, 1, none⟩) (Kd.R_far (p := ⟨gb329, 0, none⟩) (Kd.R_types HO326.out BK329.out (by decide)) (fun _ hk => hk.2) (.int .i64 t327)) (fun _ hk => hk.2) (.int .i64 t328)) (fun _ h_ => h_.1))))) (below_size eB));replace HO_309000 := Aside0.mk (Kd.V_elder' (by (with_reducible repeat (first|apply Kd.V_alloc|apply Kd.V_drewN|apply Kd.V_drew));exact (Kd.V_mono (Kd.V_far (p := ⟨gb329, 1, none⟩) (Kd.V_far (p := ⟨gb329, 0, none⟩) (Kd.V_mono HO_309000.out (fun k_ hk => (⟨hk, hk.2⟩ : _ ∧ k_ ≠ gb329))) (fun _ hk => hk.2) (.int .i64 t327)) (fun _ hk => hk.2) (.int .i64 t328)) (fun _ h_ => h_.1))) (Kd.R_base ho0) hb);replace HO_310000 := Aside0.mk (Kd.V_elder' (by (with_reducible repeat (first|apply Kd.V_alloc|apply Kd.V_drewN|apply Kd.V_drew));exact (Kd.V_mono (Kd.V_far (p := ⟨gb329, 1, none⟩) (Kd.V_far (p := ⟨gb329, 0, none⟩) (Kd.V_mono HO_310000.out (fun k_ hk => (⟨hk, hk.2⟩ : _ ∧ k_ ≠ gb329))) (fun _ hk => hk.2) (.int .i64 t327)) (fun _ hk => hk.2) (.int .i64 t328)) (fun _ h_ => h_.1))) (Kd.R_base ho0) hb);replace HO314 := Aside0.mk (Kd.R_elder' (by (with_reducible repeat first|apply rA|apply rN|apply rD);exact (Kd.R_mono (Kd.R_far (p := ⟨gb329, 1, none⟩) (Kd.R_far (p := ⟨gb329, 0, none⟩) (Kd.R_types HO314.out BK329.out (by decide)) (fun _ hk => hk.2) (.int .i64 t327)) (fun _ hk => hk.2) (.int .i64 t328)) (fun _ h_ => h_.1))) (Kd.R_base ho0) hb);replace HO320 := Aside0.mk (Kd.R_elder' (by (with_reducible repeat first|apply rA|apply rN|apply rD);exact (Kd.R_mono (Kd.R_far (p := ⟨gb329, 1, none⟩) (Kd.R_far (p := ⟨gb329, 0, none⟩) (Kd.R_types HO320.out BK329.out (by decide)) (fun _ hk => hk.2) (.int .i64 t327)) (fun _ hk => hk.2) (.int .i64 t328)) (fun _ h_ => h_.1))) (Kd.R_base ho0) hb);replace HO326 := Aside0.mk (Kd.R_elder' (by (with_reducible repeat first|apply rA|apply rN|apply rD);exact (Kd.R_mono (Kd.R_far (p := ⟨gb329, 1, none⟩) (Kd.R_far (p := ⟨gb329, 0, none⟩) (Kd.R_types HO326.out BK329.out (by decide)) (fun _ hk => hk.2) (.int .i64 t327)) (fun _ hk => hk.2) (.int .i64 t328)) (fun _ h_ => h_.1))) (Kd.R_base ho0) hb);replace BK297 := lJ BK297 hb;replace BK298 := lJ BK298 hb;replace BK308 := lJ BK308 hb;replace BK309 := lJ BK309 hb;replace BK310 := lJ BK310 hb;replace BK317 := lJ BK317 hb;replace BK323 := lJ BK323 hb;replace BK329 := lK gb329 27 #[.int .i64 t327, .int .i64 t328] hb;replace HB := sBe HB hb;(try clear hb ho0))|((with_reducible refine gate_dst (N := 18) rfl ?_);refine bE 18 #[.int .i64 0, .int .i64 0] 27 ?_;intro gb335 hg w92 hbox hb;have BK335 := Aside0.mk (hbox);have GW335 := gBe HB hg;have GE335 := gBe HB hg;have NB297_335 := nL BK297 hg;have NB335_297 := nG BK297 hg;have NB298_335 := nL BK298 hg;have NB335_298 := nG BK298 hg;have NB308_335 := nL BK308 hg;have NB335_308 := nG BK308 hg;have NB309_335 := nL BK309 hg;have NB335_309 := nG BK309 hg;have NB310_335 := nL BK310 hg;have NB335_310 := nG BK310 hg;have NB317_335 := nL BK317 hg;have NB335_317 := nG BK317 hg;have NB323_335 := nL BK323 hg;have NB335_323 := nG BK323 hg;have NB329_335 := nL BK329 hg;have NB335_329 := nG BK329 hg;replace HO_309000 := vE HO_309000 gb335 hg hb;replace HO_310000 := vE HO_310000 gb335 hg hb;replace HO314 := rL HO314 hb;replace HO320 := rL HO320 hb;replace HO326 := rL HO326 hb;replace HO332 := rL HO332 hb;replace BK297 := lJ BK297 hb;replace BK298 := lJ BK298 hb;replace BK308 := lJ BK308 hb;replace BK309 := lJ BK309 hb;replace BK310 := lJ BK310 hb;replace BK317 := lJ BK317 hb;replace BK323 := lJ BK323 hb;replace BK329 := lJ BK329 hb;replace HB := sBe HB hb;clear hb hbox hg;have hnb93 := eq_false NB335_297.out;have hnc93 := eq_false NB297_335.out;have hnb94 := eq_false NB335_298.out;have hnc94 := eq_false NB298_335.out;have hnb95 := eq_false NB335_308.out;have hnc95 := eq_false NB308_335.out;have hnb96 := eq_false NB335_309.out;have hnc96 := eq_false NB309_335.out;have hnb97 := eq_false NB335_310.out;have hnc97 := eq_false NB310_335.out;have hnb98 := eq_false NB335_317.out;have hnc98 := eq_false NB317_335.out;have hnb99 := eq_false NB335_323.out;have hnc99 := eq_false NB323_335.out;have hnb100 := eq_false NB335_329.out;have hnc100 := eq_false NB329_335.out;have hcz101_0 := hC BK335 0 (.int .i64 0);have hcz101_1 := hC BK335 1 (.int .i64 0);have hfz101_0 := blk_frozen BK335.out 0;have hfz101_1 := blk_frozen BK335.out 1))
        (try simp only [Act.put, sA, sB, sC])
        go_cut [76] (fun v76 wc => ∃ (kq : Nat) (x76_46 : Bool), v76 = .bool x76_46 ∧ Aside0 (changeforgelaw1_CommuteSameEffect.j1 kq t318 t330 x76_46 t327 t328 t333 t334 = some r) ∧ Aside0 (kq ≤ kj4) ∧ Aside0 (Kd.R Kd.string 9 wc w.heap.size (fun k_ => some k_ ≠ (v331 : Value).ownBlock) v319 t318) ∧ Aside0 (Kd.R Kd.string 9 wc w.heap.size (fun k_ => some k_ ≠ (v319 : Value).ownBlock) v331 t330) ∧ Aside0 (Kd.V k47 47 wc w.heap.size (fun k_ => some k_ ≠ (v319 : Value).ownBlock ∧ some k_ ≠ (v331 : Value).ownBlock ∧ k_ ≠ gb297 ∧ k_ ≠ gb298 ∧ k_ ≠ gb308 ∧ k_ ≠ gb309 ∧ k_ ≠ gb310 ∧ k_ ≠ gb317 ∧ k_ ≠ gb323 ∧ k_ ≠ gb329 ∧ k_ ≠ gb335) (.slice Ao15 t299.length co15) t299) ∧ Aside0 (Kd.V k47 47 wc w.heap.size (fun k_ => some k_ ≠ (v319 : Value).ownBlock ∧ some k_ ≠ (v331 : Value).ownBlock ∧ k_ ≠ gb297 ∧ k_ ≠ gb298 ∧ k_ ≠ gb308 ∧ k_ ≠ gb309 ∧ k_ ≠ gb310 ∧ k_ ≠ gb317 ∧ k_ ≠ gb323 ∧ k_ ≠ gb329 ∧ k_ ≠ gb335) (.slice Ao21 t302.length co21) t302) ∧ Aside0 (wc.heap[gb297]? = some (.cells #[(.slice A0_0 l0_0.length c0_0)] 24 (0, 0))) ∧ Aside0 (wc.heap[gb298]? = some (.cells #[(.slice A1_0 l1_0.length c1_0)] 24 (0, 0))) ∧ Aside0 (wc.heap[gb308]? = some (.cells #[(.slice Ao15 t299.length co15)] 24 (0, 0))) ∧ Aside0 (wc.heap[gb309]? = some (.cells #[(.slice Ao21 t302.length co21)] 24 (0, 0))) ∧ Aside0 (wc.heap[gb310]? = some (.cells #[.int .i64 t306, .int .i64 t307] 27 (0, 0))) ∧ Aside0 (wc.heap[gb317]? = some (.cells #[.int .i64 t315, .int .i64 t316] 27 (0, 0))) ∧ Aside0 (wc.heap[gb323]? = some (.cells #[.int .i64 t321, .int .i64 t322] 27 (0, 0))) ∧ Aside0 (wc.heap[gb329]? = some (.cells #[.int .i64 t327, .int .i64 t328] 27 (0, 0))) ∧ Aside0 (wc.heap[gb335]? = some (.cells #[.int .i64 t333, .int .i64 t334] 27 (0, 0))) ∧ Aside0 (Below w.heap.size w wc))
        case first =>
          have H := HC47.out;clear HC47
          by_cases c102 : t315 = 0
          · rw [if_pos c102] at H;have c102b0 : (t315 == 0) = true := beq_iff_eq.mpr c102;have c102b1 : (t315 != 0) = false := bne_eq_false_iff_eq.mpr c102;clear c102
            (first|rw [c102b0]|(simp only [i64_w, i32_w];rw [c102b0])|skip)
            have hnb105 := eq_false NB317_297.out;have hnc105 := eq_false NB297_317.out;have hnb106 := eq_false NB317_298.out;have hnc106 := eq_false NB298_317.out;have hnb107 := eq_false NB317_308.out;have hnc107 := eq_false NB308_317.out;have hnb108 := eq_false NB317_309.out;have hnc108 := eq_false NB309_317.out;have hnb109 := eq_false NB317_310.out;have hnc109 := eq_false NB310_317.out;have hnb110 := eq_false NB317_323.out;have hnc110 := eq_false NB323_317.out;have hnb111 := eq_false NB317_329.out;have hnc111 := eq_false NB329_317.out;have hnb112 := eq_false NB317_335.out;have hnc112 := eq_false NB335_317.out;have hcz113_0 := hC BK317 0 (.int .i64 t315);have hcz113_1 := hC BK317 1 (.int .i64 t316);have hfz113_0 := blk_frozen BK317.out 0;have hfz113_1 := blk_frozen BK317.out 1;have hnb114 := eq_false NB323_297.out;have hnc114 := eq_false NB297_323.out;have hnb115 := eq_false NB323_298.out;have hnc115 := eq_false NB298_323.out;have hnb116 := eq_false NB323_308.out;have hnc116 := eq_false NB308_323.out;have hnb117 := eq_false NB323_309.out;have hnc117 := eq_false NB309_323.out;have hnb118 := eq_false NB323_310.out;have hnc118 := eq_false NB310_323.out;have hnb119 := eq_false NB323_329.out;have hnc119 := eq_false NB329_323.out;have hnb120 := eq_false NB323_335.out;have hnc120 := eq_false NB335_323.out;have hcz121_0 := hC BK323 0 (.int .i64 t321);have hcz121_1 := hC BK323 1 (.int .i64 t322);have hfz121_0 := blk_frozen BK323.out 0;have hfz121_1 := blk_frozen BK323.out 1
            by_cases c103 : t321 = 0
            · rw [if_pos c103] at H;have c103b0 : (t321 == 0) = true := beq_iff_eq.mpr c103;have c103b1 : (t321 != 0) = false := bne_eq_false_iff_eq.mpr c103;clear c103;have hnb122 := eq_false NB329_297.out;have hnc122 := eq_false NB297_329.out;have hnb123 := eq_false NB329_298.out;have hnc123 := eq_false NB298_329.out;have hnb124 := eq_false NB329_308.out;have hnc124 := eq_false NB308_329.out;have hnb125 := eq_false NB329_309.out;have hnc125 := eq_false NB309_329.out;have hnb126 := eq_false NB329_310.out;have hnc126 := eq_false NB310_329.out;have hnb127 := eq_false NB329_335.out;have hnc127 := eq_false NB335_329.out;have hcz128_0 := hC BK329 0 (.int .i64 t327);have hcz128_1 := hC BK329 1 (.int .i64 t328);have hfz128_0 := blk_frozen BK329.out 0;have hfz128_1 := blk_frozen BK329.out 1
              by_cases c104 : t327 = 10
              · rw [if_pos c104] at H;have c104b0 : (t327 == 10) = true := beq_iff_eq.mpr c104;have c104b1 : (t327 != 10) = false := bne_eq_false_iff_eq.mpr c104;clear c104;have H' := Aside0.mk H;clear H
                go_wp2
                go_meet
                case rel => exact ⟨_, (true), (by first|rfl|(simp only [i64_w, i32_w];done)|(simp only [i64_w, i32_w];rfl)|(simp;done)|(simp [*];done)), H', ⟨by have := HJ4.out;first|omega|exact Nat.le_refl _⟩, ⟨by (with_reducible repeat first|apply rA|apply rN|apply rD);exact Kd.R_mono (Kd.R_far (p := ⟨gb335, 1, none⟩) (Kd.R_far (p := ⟨gb335, 0, none⟩) (Kd.R_types HO320.out BK335.out (by decide)) (fun _ hk => hk.2) (.int .i64 t333)) (fun _ hk => hk.2) (.int .i64 t334)) (fun _ hk => hk.1.2)⟩, ⟨by (with_reducible repeat first|apply rA|apply rN|apply rD);exact Kd.R_mono (Kd.R_far (p := ⟨gb335, 1, none⟩) (Kd.R_far (p := ⟨gb335, 0, none⟩) (Kd.R_types HO332.out BK335.out (by decide)) (fun _ hk => hk.2) (.int .i64 t333)) (fun _ hk => hk.2) (.int .i64 t334)) (fun _ hk => hk.1.1.2)⟩, ⟨by (with_reducible repeat (first|apply Kd.V_alloc|apply Kd.V_drewN|apply Kd.V_drew));exact Kd.V_mono (Kd.V_far (p := ⟨gb335, 1, none⟩) (Kd.V_far (p := ⟨gb335, 0, none⟩) (Kd.V_mono HO_309000.out (fun k_ hk => (⟨hk, hk.2⟩ : _ ∧ k_ ≠ gb335))) (fun _ hk => hk.2) (.int .i64 t333)) (fun _ hk => hk.2) (.int .i64 t334)) (fun _ hk => ⟨hk.1.1.1.1.1.1.2, ⟨hk.1.1.2, ⟨hk.1.1.1.1.1.1.1.1.1.1, ⟨hk.1.1.1.1.1.1.1.1.1.2.1, ⟨hk.1.1.1.1.1.1.1.1.1.2.2.1, ⟨hk.1.1.1.1.1.1.1.1.1.2.2.2.1, ⟨hk.1.1.1.1.1.1.1.1.1.2.2.2.2, ⟨hk.1.1.1.1.1.1.1.2, ⟨hk.1.1.1.1.1.2, ⟨hk.1.1.1.2, hk.1.2⟩⟩⟩⟩⟩⟩⟩⟩⟩⟩)⟩, ⟨by (with_reducible repeat (first|apply Kd.V_alloc|apply Kd.V_drewN|apply Kd.V_drew));exact Kd.V_mono (Kd.V_far (p := ⟨gb335, 1, none⟩) (Kd.V_far (p := ⟨gb335, 0, none⟩) (Kd.V_mono HO_310000.out (fun k_ hk => (⟨hk, hk.2⟩ : _ ∧ k_ ≠ gb335))) (fun _ hk => hk.2) (.int .i64 t333)) (fun _ hk => hk.2) (.int .i64 t334)) (fun _ hk => ⟨hk.1.1.1.1.1.1.2, ⟨hk.1.1.2, ⟨hk.1.1.1.1.1.1.1.1.1.1, ⟨hk.1.1.1.1.1.1.1.1.1.2.1, ⟨hk.1.1.1.1.1.1.1.1.1.2.2.1, ⟨hk.1.1.1.1.1.1.1.1.1.2.2.2.1, ⟨hk.1.1.1.1.1.1.1.1.1.2.2.2.2, ⟨hk.1.1.1.1.1.1.1.2, ⟨hk.1.1.1.1.1.2, ⟨hk.1.1.1.2, hk.1.2⟩⟩⟩⟩⟩⟩⟩⟩⟩⟩)⟩, ⟨kK⟩, ⟨kK⟩, ⟨kK⟩, ⟨kK⟩, ⟨kK⟩, ⟨kK⟩, ⟨kK⟩, ⟨kK⟩, ⟨kK⟩, ⟨eB⟩⟩
              · rw [if_neg c104] at H;have c104b0 : (t327 == 10) = false := beq_eq_false_iff_ne.mpr c104;have c104b1 : (t327 != 10) = true := bne_iff_ne.mpr c104;have H' := Aside0.mk H;clear H;have hnb153 := eq_false NB335_297.out;have hnc153 := eq_false NB297_335.out;have hnb154 := eq_false NB335_298.out;have hnc154 := eq_false NB298_335.out;have hnb155 := eq_false NB335_308.out;have hnc155 := eq_false NB308_335.out;have hnb156 := eq_false NB335_309.out;have hnc156 := eq_false NB309_335.out;have hnb157 := eq_false NB335_310.out;have hnc157 := eq_false NB310_335.out;have hcz158_0 := hC BK335 0 (.int .i64 0);have hcz158_1 := hC BK335 1 (.int .i64 0);have hfz158_0 := blk_frozen BK335.out 0;have hfz158_1 := blk_frozen BK335.out 1
                go_wp2
                go_meet
                case rel => exact ⟨_, ((t333 == 10)), (by first|rfl|(simp only [i64_w, i32_w];done)|(simp only [i64_w, i32_w];rfl)|(simp;done)|(simp [*];done)), H', ⟨by have := HJ4.out;first|omega|exact Nat.le_refl _⟩, ⟨by (with_reducible repeat first|apply rA|apply rN|apply rD);exact Kd.R_mono (Kd.R_far (p := ⟨gb335, 1, none⟩) (Kd.R_far (p := ⟨gb335, 0, none⟩) (Kd.R_types HO320.out BK335.out (by decide)) (fun _ hk => hk.2) (.int .i64 t333)) (fun _ hk => hk.2) (.int .i64 t334)) (fun _ hk => hk.1.2)⟩, ⟨by (with_reducible repeat first|apply rA|apply rN|apply rD);exact Kd.R_mono (Kd.R_far (p := ⟨gb335, 1, none⟩) (Kd.R_far (p := ⟨gb335, 0, none⟩) (Kd.R_types HO332.out BK335.out (by decide)) (fun _ hk => hk.2) (.int .i64 t333)) (fun _ hk => hk.2) (.int .i64 t334)) (fun _ hk => hk.1.1.2)⟩, ⟨by (with_reducible repeat (first|apply Kd.V_alloc|apply Kd.V_drewN|apply Kd.V_drew));exact Kd.V_mono (Kd.V_far (p := ⟨gb335, 1, none⟩) (Kd.V_far (p := ⟨gb335, 0, none⟩) (Kd.V_mono HO_309000.out (fun k_ hk => (⟨hk, hk.2⟩ : _ ∧ k_ ≠ gb335))) (fun _ hk => hk.2) (.int .i64 t333)) (fun _ hk => hk.2) (.int .i64 t334)) (fun _ hk => ⟨hk.1.1.1.1.1.1.2, ⟨hk.1.1.2, ⟨hk.1.1.1.1.1.1.1.1.1.1, ⟨hk.1.1.1.1.1.1.1.1.1.2.1, ⟨hk.1.1.1.1.1.1.1.1.1.2.2.1, ⟨hk.1.1.1.1.1.1.1.1.1.2.2.2.1, ⟨hk.1.1.1.1.1.1.1.1.1.2.2.2.2, ⟨hk.1.1.1.1.1.1.1.2, ⟨hk.1.1.1.1.1.2, ⟨hk.1.1.1.2, hk.1.2⟩⟩⟩⟩⟩⟩⟩⟩⟩⟩)⟩, ⟨by (with_reducible repeat (first|apply Kd.V_alloc|apply Kd.V_drewN|apply Kd.V_drew));exact Kd.V_mono (Kd.V_far (p := ⟨gb335, 1, none⟩) (Kd.V_far (p := ⟨gb335, 0, none⟩) (Kd.V_mono HO_310000.out (fun k_ hk => (⟨hk, hk.2⟩ : _ ∧ k_ ≠ gb335))) (fun _ hk => hk.2) (.int .i64 t333)) (fun _ hk => hk.2) (.int .i64 t334)) (fun _ hk => ⟨hk.1.1.1.1.1.1.2, ⟨hk.1.1.2, ⟨hk.1.1.1.1.1.1.1.1.1.1, ⟨hk.1.1.1.1.1.1.1.1.1.2.1, ⟨hk.1.1.1.1.1.1.1.1.1.2.2.1, ⟨hk.1.1.1.1.1.1.1.1.1.2.2.2.1, ⟨hk.1.1.1.1.1.1.1.1.1.2.2.2.2, ⟨hk.1.1.1.1.1.1.1.2, ⟨hk.1.1.1.1.1.2, ⟨hk.1.1.1.2, hk.1.2⟩⟩⟩⟩⟩⟩⟩⟩⟩⟩)⟩, ⟨kK⟩, ⟨kK⟩, ⟨kK⟩, ⟨kK⟩, ⟨kK⟩, ⟨kK⟩, ⟨kK⟩, ⟨kK⟩, ⟨kK⟩, ⟨eB⟩⟩
            · rw [if_neg c103] at H;have c103b0 : (t321 == 0) = false := beq_eq_false_iff_ne.mpr c103;have c103b1 : (t321 != 0) = true := bne_iff_ne.mpr c103;have H' := Aside0.mk H;clear H
              go_wp2
              go_meet
              case rel => exact ⟨_, (true), (by first|rfl|(simp only [i64_w, i32_w];done)|(simp only [i64_w, i32_w];rfl)|(simp;done)|(simp [*];done)), H', ⟨by have := HJ4.out;first|omega|exact Nat.le_refl _⟩, ⟨by (with_reducible repeat first|apply rA|apply rN|apply rD);exact Kd.R_mono (Kd.R_far (p := ⟨gb335, 1, none⟩) (Kd.R_far (p := ⟨gb335, 0, none⟩) (Kd.R_types HO320.out BK335.out (by decide)) (fun _ hk => hk.2) (.int .i64 t333)) (fun _ hk => hk.2) (.int .i64 t334)) (fun _ hk => hk.1.2)⟩, ⟨by (with_reducible repeat first|apply rA|apply rN|apply rD);exact Kd.R_mono (Kd.R_far (p := ⟨gb335, 1, none⟩) (Kd.R_far (p := ⟨gb335, 0, none⟩) (Kd.R_types HO332.out BK335.out (by decide)) (fun _ hk => hk.2) (.int .i64 t333)) (fun _ hk => hk.2) (.int .i64 t334)) (fun _ hk => hk.1.1.2)⟩, ⟨by (with_reducible repeat (first|apply Kd.V_alloc|apply Kd.V_drewN|apply Kd.V_drew));exact Kd.V_mono (Kd.V_far (p := ⟨gb335, 1, none⟩) (Kd.V_far (p := ⟨gb335, 0, none⟩) (Kd.V_mono HO_309000.out (fun k_ hk => (⟨hk, hk.2⟩ : _ ∧ k_ ≠ gb335))) (fun _ hk => hk.2) (.int .i64 t333)) (fun _ hk => hk.2) (.int .i64 t334)) (fun _ hk => ⟨hk.1.1.1.1.1.1.2, ⟨hk.1.1.2, ⟨hk.1.1.1.1.1.1.1.1.1.1, ⟨hk.1.1.1.1.1.1.1.1.1.2.1, ⟨hk.1.1.1.1.1.1.1.1.1.2.2.1, ⟨hk.1.1.1.1.1.1.1.1.1.2.2.2.1, ⟨hk.1.1.1.1.1.1.1.1.1.2.2.2.2, ⟨hk.1.1.1.1.1.1.1.2, ⟨hk.1.1.1.1.1.2, ⟨hk.1.1.1.2, hk.1.2⟩⟩⟩⟩⟩⟩⟩⟩⟩⟩)⟩, ⟨by (with_reducible repeat (first|apply Kd.V_alloc|apply Kd.V_drewN|apply Kd.V_drew));exact Kd.V_mono (Kd.V_far (p := ⟨gb335, 1, none⟩) (Kd.V_far (p := ⟨gb335, 0, none⟩) (Kd.V_mono HO_310000.out (fun k_ hk => (⟨hk, hk.2⟩ : _ ∧ k_ ≠ gb335))) (fun _ hk => hk.2) (.int .i64 t333)) (fun _ hk => hk.2) (.int .i64 t334)) (fun _ hk => ⟨hk.1.1.1.1.1.1.2, ⟨hk.1.1.2, ⟨hk.1.1.1.1.1.1.1.1.1.1, ⟨hk.1.1.1.1.1.1.1.1.1.2.1, ⟨hk.1.1.1.1.1.1.1.1.1.2.2.1, ⟨hk.1.1.1.1.1.1.1.1.1.2.2.2.1, ⟨hk.1.1.1.1.1.1.1.1.1.2.2.2.2, ⟨hk.1.1.1.1.1.1.1.2, ⟨hk.1.1.1.1.1.2, ⟨hk.1.1.1.2, hk.1.2⟩⟩⟩⟩⟩⟩⟩⟩⟩⟩)⟩, ⟨kK⟩, ⟨kK⟩, ⟨kK⟩, ⟨kK⟩, ⟨kK⟩, ⟨kK⟩, ⟨kK⟩, ⟨kK⟩, ⟨kK⟩, ⟨eB⟩⟩
          · rw [if_neg c102] at H;have c102b0 : (t315 == 0) = false := beq_eq_false_iff_ne.mpr c102;have c102b1 : (t315 != 0) = true := bne_iff_ne.mpr c102
            (first|rw [c102b0]|(simp only [i64_w, i32_w];rw [c102b0])|skip)
            have H' := Aside0.mk H;clear H;have hnb176 := eq_false NB317_297.out;have hnc176 := eq_false NB297_317.out;have hnb177 := eq_false NB317_298.out;have hnc177 := eq_false NB298_317.out;have hnb178 := eq_false NB317_308.out;have hnc178 := eq_false NB308_317.out;have hnb179 := eq_false NB317_309.out;have hnc179 := eq_false NB309_317.out;have hnb180 := eq_false NB317_310.out;have hnc180 := eq_false NB310_317.out;have hnb181 := eq_false NB317_323.out;have hnc181 := eq_false NB323_317.out;have hnb182 := eq_false NB317_329.out;have hnc182 := eq_false NB329_317.out;have hnb183 := eq_false NB317_335.out;have hnc183 := eq_false NB335_317.out;have hcz184_0 := hC BK317 0 (.int .i64 t315);have hcz184_1 := hC BK317 1 (.int .i64 t316);have hfz184_0 := blk_frozen BK317.out 0;have hfz184_1 := blk_frozen BK317.out 1
            go_wp2
            go_meet
            case rel => exact ⟨_, (true), (by first|rfl|(simp only [i64_w, i32_w];done)|(simp only [i64_w, i32_w];rfl)|(simp;done)|(simp [*];done)), H', ⟨by have := HJ4.out;first|omega|exact Nat.le_refl _⟩, ⟨by (with_reducible repeat first|apply rA|apply rN|apply rD);exact Kd.R_mono (Kd.R_far (p := ⟨gb335, 1, none⟩) (Kd.R_far (p := ⟨gb335, 0, none⟩) (Kd.R_types HO320.out BK335.out (by decide)) (fun _ hk => hk.2) (.int .i64 t333)) (fun _ hk => hk.2) (.int .i64 t334)) (fun _ hk => hk.1.2)⟩, ⟨by (with_reducible repeat first|apply rA|apply rN|apply rD);exact Kd.R_mono (Kd.R_far (p := ⟨gb335, 1, none⟩) (Kd.R_far (p := ⟨gb335, 0, none⟩) (Kd.R_types HO332.out BK335.out (by decide)) (fun _ hk => hk.2) (.int .i64 t333)) (fun _ hk => hk.2) (.int .i64 t334)) (fun _ hk => hk.1.1.2)⟩, ⟨by (with_reducible repeat (first|apply Kd.V_alloc|apply Kd.V_drewN|apply Kd.V_drew));exact Kd.V_mono (Kd.V_far (p := ⟨gb335, 1, none⟩) (Kd.V_far (p := ⟨gb335, 0, none⟩) (Kd.V_mono HO_309000.out (fun k_ hk => (⟨hk, hk.2⟩ : _ ∧ k_ ≠ gb335))) (fun _ hk => hk.2) (.int .i64 t333)) (fun _ hk => hk.2) (.int .i64 t334)) (fun _ hk => ⟨hk.1.1.1.1.1.1.2, ⟨hk.1.1.2, ⟨hk.1.1.1.1.1.1.1.1.1.1, ⟨hk.1.1.1.1.1.1.1.1.1.2.1, ⟨hk.1.1.1.1.1.1.1.1.1.2.2.1, ⟨hk.1.1.1.1.1.1.1.1.1.2.2.2.1, ⟨hk.1.1.1.1.1.1.1.1.1.2.2.2.2, ⟨hk.1.1.1.1.1.1.1.2, ⟨hk.1.1.1.1.1.2, ⟨hk.1.1.1.2, hk.1.2⟩⟩⟩⟩⟩⟩⟩⟩⟩⟩)⟩, ⟨by (with_reducible repeat (first|apply Kd.V_alloc|apply Kd.V_drewN|apply Kd.V_drew));exact Kd.V_mono (Kd.V_far (p := ⟨gb335, 1, none⟩) (Kd.V_far (p := ⟨gb335, 0, none⟩) (Kd.V_mono HO_310000.out (fun k_ hk => (⟨hk, hk.2⟩ : _ ∧ k_ ≠ gb335))) (fun _ hk => hk.2) (.int .i64 t333)) (fun _ hk => hk.2) (.int .i64 t334)) (fun _ hk => ⟨hk.1.1.1.1.1.1.2, ⟨hk.1.1.2, ⟨hk.1.1.1.1.1.1.1.1.1.1, ⟨hk.1.1.1.1.1.1.1.1.1.2.1, ⟨hk.1.1.1.1.1.1.1.1.1.2.2.1, ⟨hk.1.1.1.1.1.1.1.1.1.2.2.2.1, ⟨hk.1.1.1.1.1.1.1.1.1.2.2.2.2, ⟨hk.1.1.1.1.1.1.1.2, ⟨hk.1.1.1.1.1.2, ⟨hk.1.1.1.2, hk.1.2⟩⟩⟩⟩⟩⟩⟩⟩⟩⟩)⟩, ⟨kK⟩, ⟨kK⟩, ⟨kK⟩, ⟨kK⟩, ⟨kK⟩, ⟨kK⟩, ⟨kK⟩, ⟨kK⟩, ⟨kK⟩, ⟨eB⟩⟩
        case rest =>
          clear HC47
          try clear c1
          try clear c2
          try clear p2
          try clear c3
          try clear c4
          try clear c5
          try clear c6
          try clear c7
          try clear c8
          try clear c9
          try clear c10
          try clear c11
          try clear c12
          try clear c13
          try clear c14
          try clear c15
          try clear c16
          try clear c17
          try clear c18
          try clear c19
          try clear c22
          try clear c23
          try clear c24
          try clear c26
          try clear c27
          try clear c28
          try clear c29
          try clear c29b0
          try clear c29b1
          try clear c30
          try clear c31
          try clear c32
          try clear c33
          try clear c35
          try clear c36
          try clear c37
          try clear c38
          try clear c40
          try clear c48
          try clear c49
          try clear c50
          try clear c51
          try clear c55
          try clear c56
          try clear c57
          try clear c58
          try clear c59
          try clear c61
          try clear c62
          try clear c63
          try clear c68
          try clear c69
          try clear c70
          try clear c71
          try clear c72
          try clear c73
          try clear c75
          try clear c76
          try clear c80
          try clear c81
          try clear c82
          try clear c83
          try clear c84
          try clear c85
          try clear c86
          try clear c88
          try clear c93
          try clear c94
          try clear c95
          try clear c96
          try clear c97
          try clear c98
          try clear c99
          try clear c100
          try clear c102
          try clear c102b0
          try clear c102b1
          try clear c103
          try clear c103b0
          try clear c103b1
          try clear c104
          try clear c104b0
          try clear c104b1
          try clear c105
          try clear c106
          try clear c107
          try clear c108
          try clear c109
          try clear c110
          try clear c111
          try clear c112
          try clear c114
          try clear c115
          try clear c116
          try clear c117
          try clear c118
          try clear c119
          try clear c120
          try clear c122
          try clear c123
          try clear c124
          try clear c125
          try clear c126
          try clear c127
          try clear c129
          try clear c130
          try clear c131
          try clear c132
          try clear c133
          try clear c134
          try clear c135
          try clear c136
          try clear c138
          try clear c139
          try clear c140
          try clear c141
          try clear c142
          try clear c143
          try clear c144
          try clear c146
          try clear c147
          try clear c148
          try clear c149
          try clear c150
          try clear c151
          try clear c153
          try clear c154
          try clear c155
          try clear c156
          try clear c157
          try clear c159
          try clear c160
          try clear c161
          try clear c162
          try clear c163
          try clear c164
          try clear c165
          try clear c166
          try clear c168
          try clear c169
          try clear c170
          try clear c171
          try clear c172
          try clear c173
          try clear c174
          try clear c176
          try clear c177
          try clear c178
          try clear c179
          try clear c180
          try clear c181
          try clear c182
          try clear c183
          try clear hcz101_0
          try clear hcz101_1
          try clear hcz10_0
          try clear hcz113_0
          try clear hcz113_1
          try clear hcz121_0
          try clear hcz121_1
          try clear hcz128_0
          try clear hcz128_1
          try clear hcz137_0
          try clear hcz137_1
          try clear hcz145_0
          try clear hcz145_1
          try clear hcz152_0
          try clear hcz152_1
          try clear hcz158_0
          try clear hcz158_1
          try clear hcz167_0
          try clear hcz167_1
          try clear hcz175_0
          try clear hcz175_1
          try clear hcz184_0
          try clear hcz184_1
          try clear hcz20_0
          try clear hcz25_0
          try clear hcz28_0
          try clear hcz28_1
          try clear hcz34_0
          try clear hcz34_1
          try clear hcz39_0
          try clear hcz39_1
          try clear hcz52_0
          try clear hcz60_0
          try clear hcz60_1
          try clear hcz64_0
          try clear hcz74_0
          try clear hcz74_1
          try clear hcz77_0
          try clear hcz87_0
          try clear hcz87_1
          try clear hcz89_0
          try clear hcz9_0
          try clear hfz101_0
          try clear hfz101_1
          try clear hfz10_0
          try clear hfz113_0
          try clear hfz113_1
          try clear hfz121_0
          try clear hfz121_1
          try clear hfz128_0
          try clear hfz128_1
          try clear hfz137_0
          try clear hfz137_1
          try clear hfz145_0
          try clear hfz145_1
          try clear hfz152_0
          try clear hfz152_1
          try clear hfz158_0
          try clear hfz158_1
          try clear hfz167_0
          try clear hfz167_1
          try clear hfz175_0
          try clear hfz175_1
          try clear hfz184_0
          try clear hfz184_1
          try clear hfz20_0
          try clear hfz25_0
          try clear hfz28_0
          try clear hfz28_1
          try clear hfz34_0
          try clear hfz34_1
          try clear hfz39_0
          try clear hfz39_1
          try clear hfz52_0
          try clear hfz60_0
          try clear hfz60_1
          try clear hfz64_0
          try clear hfz74_0
          try clear hfz74_1
          try clear hfz77_0
          try clear hfz87_0
          try clear hfz87_1
          try clear hfz89_0
          try clear hfz9_0
          try clear p2
          obtain ⟨kq, x76_46, rfl, HA, HJ46, HO_13, HO_17, HO_309000, HO_310000, BK297, BK298, BK308, BK309, BK310, BK317, BK323, BK329, BK335, HB⟩ := hcut
          cases kq with
          | zero => exact absurd HA.out (by simp [changeforgelaw1_CommuteSameEffect.j1])
          | succ kj46 =>
            have H := HA.out;clear HA;simp only [changeforgelaw1_CommuteSameEffect.j1] at H
            by_cases c185 : x76_46 = true
            · subst c185;have H1 : ((changeforgelaw1_exchanged.f kj46).bind fun t336 => (some t336)) = some r := (by rw [if_pos rfl] at H;exact H);clear H;have H := H1;clear H1;replace H := Option.bind_eq_some_iff.mp H;obtain ⟨t336, A1860, H⟩ := H;replace H : (some t336) = some r := H;have A186 := Aside0.mk A1860;clear A1860;obtain rfl := Option.some.inj H
              go_wp2_with (first|((with_reducible refine gate_callee (f := 28) rfl ?_);refine goesL_ (some 77) rfl rfl Try.func28 (by kernel_rfl) rfl #[] rfl mA ?_;(with_reducible refine (changeforgelaw1_exchanged.calls kj46  t336 _ A186.out hrt).mono ?_);rintro e w187 ⟨rfl, hb⟩;refine ⟨_, rfl, ?_⟩;replace HO_13 := rL HO_13 hb;replace HO_17 := rL HO_17 hb;replace HO_309000 := Aside0.mk (Kd.V_below (vK HO_309000) hb);replace HO_310000 := Aside0.mk (Kd.V_below (vK HO_310000) hb);replace BK297 := lJ BK297 hb;replace BK298 := lJ BK298 hb;replace BK308 := lJ BK308 hb;replace BK309 := lJ BK309 hb;replace BK310 := lJ BK310 hb;replace BK317 := lJ BK317 hb;replace BK323 := lJ BK323 hb;replace BK329 := lJ BK329 hb;replace BK335 := lJ BK335 hb;replace HB := sBe HB hb;(try clear hb)))
              go_ret
              exact ⟨rW, eB⟩
            · replace c185 := Bool.eq_false_iff.mpr c185;subst c185;have H1 : (if t327 = 0 then (if t333 = 0 then ((changeforgeequal_Strings.f t330 t318).bind fun t337 => (if t337 = true then ((changeforgelaw1_exchanged.f kj46).bind fun t338 => (some t338)) else (some false))) else (some false)) else (some false)) = some r := (by rw [if_neg (show ¬ (false = true) by decide)] at H;exact H);clear H;have H := H1;clear H1
              by_cases c188 : t327 = 0
              · rw [if_pos c188] at H;have c188b0 : (t327 == 0) = true := beq_iff_eq.mpr c188;have c188b1 : (t327 != 0) = false := bne_eq_false_iff_eq.mpr c188;clear c188
                by_cases c189 : t333 = 0
                · rw [if_pos c189] at H;have c189b0 : (t333 == 0) = true := beq_iff_eq.mpr c189;have c189b1 : (t333 != 0) = false := bne_eq_false_iff_eq.mpr c189;clear c189;replace H := Option.bind_eq_some_iff.mp H;obtain ⟨t337, A1900, H⟩ := H;replace H : (if t337 = true then ((changeforgelaw1_exchanged.f kj46).bind fun t338 => (some t338)) else (some false)) = some r := H;have A190 := Aside0.mk A1900;clear A1900
                  by_cases c191 : t337 = true
                  · subst c191;have H1 : ((changeforgelaw1_exchanged.f kj46).bind fun t338 => (some t338)) = some r := (by rw [if_pos rfl] at H;exact H);clear H;have H := H1;clear H1;replace H := Option.bind_eq_some_iff.mp H;obtain ⟨t338, A1920, H⟩ := H;replace H : (some t338) = some r := H;have A192 := Aside0.mk A1920;clear A1920;obtain rfl := Option.some.inj H;have hnb193 := eq_false NB329_297.out;have hnc193 := eq_false NB297_329.out;have hnb194 := eq_false NB329_298.out;have hnc194 := eq_false NB298_329.out;have hnb195 := eq_false NB329_308.out;have hnc195 := eq_false NB308_329.out;have hnb196 := eq_false NB329_309.out;have hnc196 := eq_false NB309_329.out;have hnb197 := eq_false NB329_310.out;have hnc197 := eq_false NB310_329.out;have hnb198 := eq_false NB329_317.out;have hnc198 := eq_false NB317_329.out;have hnb199 := eq_false NB329_323.out;have hnc199 := eq_false NB323_329.out;have hnb200 := eq_false NB329_335.out;have hnc200 := eq_false NB335_329.out;have hcz201_0 : wc.cell? ⟨gb329, 0, none⟩ = some (.int .i64 t327) := (blk_cell BK329.out 0).trans rfl;have hcz201_1 : wc.cell? ⟨gb329, 1, none⟩ = some (.int .i64 t328) := (blk_cell BK329.out 1).trans rfl;have hfz201_0 := blk_frozen BK329.out 0;have hfz201_1 := blk_frozen BK329.out 1;have hnb202 := eq_false NB335_297.out;have hnc202 := eq_false NB297_335.out;have hnb203 := eq_false NB335_298.out;have hnc203 := eq_false NB298_335.out;have hnb204 := eq_false NB335_308.out;have hnc204 := eq_false NB308_335.out;have hnb205 := eq_false NB335_309.out;have hnc205 := eq_false NB309_335.out;have hnb206 := eq_false NB335_310.out;have hnc206 := eq_false NB310_335.out;have hnb207 := eq_false NB335_317.out;have hnc207 := eq_false NB317_335.out;have hnb208 := eq_false NB335_323.out;have hnc208 := eq_false NB323_335.out;have hcz209_0 : wc.cell? ⟨gb335, 0, none⟩ = some (.int .i64 t333) := (blk_cell BK335.out 0).trans rfl;have hcz209_1 : wc.cell? ⟨gb335, 1, none⟩ = some (.int .i64 t334) := (blk_cell BK335.out 1).trans rfl;have hfz209_0 := blk_frozen BK335.out 0;have hfz209_1 := blk_frozen BK335.out 1;obtain ⟨Ao210, co210, eo210⟩ := Kd.R_slice HO_17.out;subst eo210;obtain ⟨Ao211, co211, eo211⟩ := Kd.R_slice HO_13.out;subst eo211
                    go_wp2_with (first|(go_at_call 21;(with_reducible refine (changeforgeequal_Strings.calls _ _ t330 _ _ t318 true _ ?side1 ?side2 ?side3 ?side4 A190.out).mono ?_);(case side1 => repeat (first|exact (Kd.R_reads' HO_17.out).2.2|(with_reducible refine Kd.C_alloc ?_ _)|(with_reducible refine Kd.C_drewN ?_ _)|(with_reducible refine Kd.C_drew ?_)));(case side2 => exact (Kd.R_reads' HO_17.out).2.1);(case side3 => repeat (first|exact (Kd.R_reads' HO_13.out).2.2|(with_reducible refine Kd.C_alloc ?_ _)|(with_reducible refine Kd.C_drewN ?_ _)|(with_reducible refine Kd.C_drew ?_)));(case side4 => exact (Kd.R_reads' HO_13.out).2.1);rintro e w' ⟨rfl, ⟨nd, rfl⟩⟩)|(go_at_call 28;(with_reducible refine (changeforgelaw1_exchanged.calls kj46  t338 _ A192.out hrt).mono ?_);rintro e w212 ⟨rfl, hb⟩;replace HO_13 := rL HO_13 hb;replace HO_17 := rL HO_17 hb;replace HO_309000 := Aside0.mk (Kd.V_below (vK HO_309000) hb);replace HO_310000 := Aside0.mk (Kd.V_below (vK HO_310000) hb);replace BK297 := lJ BK297 hb;replace BK298 := lJ BK298 hb;replace BK308 := lJ BK308 hb;replace BK309 := lJ BK309 hb;replace BK310 := lJ BK310 hb;replace BK317 := lJ BK317 hb;replace BK323 := lJ BK323 hb;replace BK329 := lJ BK329 hb;replace BK335 := lJ BK335 hb;replace HB := sBe HB hb;(try clear hb)))
                    go_ret
                    exact ⟨rW, eB⟩
                  · replace c191 := Bool.eq_false_iff.mpr c191;subst c191;have H1 : (some false) = some r := (by rw [if_neg (show ¬ (false = true) by decide)] at H;exact H);clear H;have H := H1;clear H1;obtain rfl := Option.some.inj H;exact absurd hrt (by decide)
                · rw [if_neg c189] at H;have c189b0 : (t333 == 0) = false := beq_eq_false_iff_ne.mpr c189;have c189b1 : (t333 != 0) = true := bne_iff_ne.mpr c189;obtain rfl := Option.some.inj H;exact absurd hrt (by decide)
              · rw [if_neg c188] at H;have c188b0 : (t327 == 0) = false := beq_eq_false_iff_ne.mpr c188;have c188b1 : (t327 != 0) = true := bne_iff_ne.mpr c188;obtain rfl := Option.some.inj H;exact absurd hrt (by decide)
/-- THE ONE PURE STATEMENT of changeforgelaw1_CommuteSameEffect: yours. -/
def changeforgelaw1_CommuteSameEffect.Pure : Prop := ∀ (l0_0 : List (S47)) (l1_0 : List (S47)) (l2 : List ByteArray), l0_0.length ≤ maxLen → (∀ x ∈ l0_0, ((Lit.int .i64 x.f0).wf = true) ∧ ((x.f1.length ≤ maxLen ∧ ∀ yxf1 ∈ x.f1, yxf1.size ≤ maxLen) ∧ ((x.f2.length ≤ maxLen ∧ ∀ yxf2 ∈ x.f2, yxf2.size ≤ maxLen)))) → l1_0.length ≤ maxLen → (∀ x ∈ l1_0, ((Lit.int .i64 x.f0).wf = true) ∧ ((x.f1.length ≤ maxLen ∧ ∀ yxf1 ∈ x.f1, yxf1.size ≤ maxLen) ∧ ((x.f2.length ≤ maxLen ∧ ∀ yxf2 ∈ x.f2, yxf2.size ≤ maxLen)))) → l2.length ≤ maxLen → l2.length * 16 ≤ 140737488351232 → (∀ x ∈ l2, x.size ≤ maxLen) → ∃ k, changeforgelaw1_CommuteSameEffect.f k l0_0 l1_0 l2 = some true
theorem changeforgelaw1_CommuteSameEffect.walk (P : changeforgelaw1_CommuteSameEffect.Pure) (A0_0 : Option Addr) (c0_0 : Nat) (l0_0 : List (S47)) (A1_0 : Option Addr) (c1_0 : Nat) (l1_0 : List (S47)) (A2 : Option Addr) (c2 : Nat) (l2 : List ByteArray) (w : World) (hr0_0 : Kd.C k47 w A0_0 l0_0.length l0_0) (hc0_0 : l0_0.length ≤ c0_0) (hm0_0 : l0_0.length ≤ maxLen) (he0_0 : ∀ x ∈ l0_0, ((Lit.int .i64 x.f0).wf = true) ∧ ((x.f1.length ≤ maxLen ∧ ∀ yxf1 ∈ x.f1, yxf1.size ≤ maxLen) ∧ ((x.f2.length ≤ maxLen ∧ ∀ yxf2 ∈ x.f2, yxf2.size ≤ maxLen)))) (hr1_0 : Kd.C k47 w A1_0 l1_0.length l1_0) (hc1_0 : l1_0.length ≤ c1_0) (hm1_0 : l1_0.length ≤ maxLen) (he1_0 : ∀ x ∈ l1_0, ((Lit.int .i64 x.f0).wf = true) ∧ ((x.f1.length ≤ maxLen ∧ ∀ yxf1 ∈ x.f1, yxf1.size ≤ maxLen) ∧ ((x.f2.length ≤ maxLen ∧ ∀ yxf2 ∈ x.f2, yxf2.size ≤ maxLen)))) (hr2 : Kd.C Kd.string w A2 l2.length l2) (hc2 : l2.length ≤ c2) (hm2 : l2.length ≤ maxLen) (hs2 : l2.length * 16 ≤ 140737488351232) (he2 : ∀ x ∈ l2, x.size ≤ maxLen) :
    Calls Try.prog 12 #[.agg #[.slice A0_0 l0_0.length c0_0], .agg #[.slice A1_0 l1_0.length c1_0], .slice A2 l2.length c2] w fun e w' => e = .returned (.bool true) ∧ Below w.heap.size w w' := by
  obtain ⟨k, h⟩ := P l0_0 l1_0 l2 hm0_0 he0_0 hm1_0 he1_0 hm2 hs2 he2;refine (changeforgelaw1_CommuteSameEffect.calls k _ _ l0_0 _ _ l1_0 _ _ l2 true w hr0_0 hc0_0 hr1_0 hc1_0 hr2 hc2 h rfl).mono ?_
  rintro e w' ⟨rfl, hd⟩
  exact ⟨rfl, hd⟩

end Go.Proofs.Ytdnnkhogpobjbaa.PU
