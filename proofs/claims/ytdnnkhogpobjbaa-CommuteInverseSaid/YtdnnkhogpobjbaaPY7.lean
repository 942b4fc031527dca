/- Printed by a program of this session out of the translation: Lean functions for Go functions, and proofs that the Go functions answer the same. -/
import Derived.Test.YtdnnkhogpobjbaaPY0
import Derived.Test.YtdnnkhogpobjbaaPY2
import Derived.Test.YtdnnkhogpobjbaaPY3
import Derived.Test.YtdnnkhogpobjbaaPY5
import Derived.Test.YtdnnkhogpobjbaaPY6
namespace Go.Proofs.Ytdnnkhogpobjbaa.PY
open Go.RowKit Go.Proofs.Ytdnnkhogpobjbaa.Pre Go.Proofs.YtdnnkhogpobjbaaW.PrintWords Go.Proofs.YtdnnkhogpobjbaaW.PrintLast Go.Proofs.YtdnnkhogpobjbaaW.PrintMore
attribute [local go_sem] max2_int min2_int max_two min_two max_three min_three max_four min_four   -- for this text's walks alone
set_option linter.unusedVariables false
set_option linter.unusedSimpArgs false

/-! ### changeforgelaw1_CommuteInverse: function 10 -/
mutual
def changeforgelaw1_CommuteInverse.j0 : Nat → Bool → List (S47) → List (S47) → List (S47) → List (S47) → Option (Bool)
  | 0, _, _, _, _, _ => none
  | k + 1, x55, x306000, x307000, x314000, x321000 => if x55 = true then ((changeforgelaw1_exchanged.f k).bind fun t322 => (some t322)) else ((commute_Commute.f k x321000 x314000).bind fun bt323 => ((textpatch_Invert.f k x307000).bind fun bt335 => ((textpatch_Invert.f k x306000).bind fun bt342 => (if bt323.2.2.2.1 = 0 then (if bt335.2.1 = 0 then (changeforgelaw1_CommuteInverse.j1 k bt323.2.2.1 (bt342.2.1 != 0) bt323.1 bt323.2.1 bt335.1 bt342.1) else (changeforgelaw1_CommuteInverse.j1 k bt323.2.2.1 true bt323.1 bt323.2.1 bt335.1 bt342.1)) else (changeforgelaw1_CommuteInverse.j1 k bt323.2.2.1 true bt323.1 bt323.2.1 bt335.1 bt342.1)))))
def changeforgelaw1_CommuteInverse.j1 : Nat → Bool → Bool → List (S47) → List (S47) → List (S47) → List (S47) → Option (Bool)
  | 0, _, _, _, _, _, _ => none
  | k + 1, x15, x87, x333000, x334000, x341000, x348000 => if x87 = true then ((changeforgelaw1_exchanged.f k).bind fun t349 => (some t349)) else (if x15 = true then ((changeforgeequal_Patch.f k x333000 x341000).bind fun t350 => (if t350 = true then ((changeforgeequal_Patch.f k x334000 x348000).bind fun t351 => (if t351 = true then ((changeforgelaw1_exchanged.f k).bind fun t352 => (some t352)) else (some false))) else (some false))) else (some false))
end
def changeforgelaw1_CommuteInverse.f (k : Nat) (l0_0 : List (S47)) (l1_0 : List (S47)) : Option (Bool) := (commute_Commute.f k l0_0 l1_0).bind fun bt296 => ((textpatch_Invert.f k l0_0).bind fun bt308 => ((textpatch_Invert.f k l1_0).bind fun bt315 => (if bt296.2.2.2.1 = 0 then (if bt308.2.1 = 0 then (if bt315.2.1 = 0 then (changeforgelaw1_CommuteInverse.j0 k (!bt296.2.2.1) bt296.1 bt296.2.1 bt308.1 bt315.1) else (changeforgelaw1_CommuteInverse.j0 k true bt296.1 bt296.2.1 bt308.1 bt315.1)) else (changeforgelaw1_CommuteInverse.j0 k true bt296.1 bt296.2.1 bt308.1 bt315.1)) else (changeforgelaw1_CommuteInverse.j0 k true bt296.1 bt296.2.1 bt308.1 bt315.1))))
theorem changeforgelaw1_CommuteInverse.mono_l : ∀ k, (∀ y0 y1 y2 y3 y4, LeO (changeforgelaw1_CommuteInverse.j0 k y0 y1 y2 y3 y4) (changeforgelaw1_CommuteInverse.j0 (k + 1) y0 y1 y2 y3 y4)) ∧ (∀ y0 y1 y2 y3 y4 y5, LeO (changeforgelaw1_CommuteInverse.j1 k y0 y1 y2 y3 y4 y5) (changeforgelaw1_CommuteInverse.j1 (k + 1) y0 y1 y2 y3 y4 y5))
  | 0 => ⟨fun _ _ _ _ _ r h => by simp [changeforgelaw1_CommuteInverse.j0] at h, fun _ _ _ _ _ _ r h => by simp [changeforgelaw1_CommuteInverse.j1] at h⟩
  | k + 1 => by
    obtain ⟨ih0, ih1⟩ := changeforgelaw1_CommuteInverse.mono_l k;refine ⟨?_, ?_⟩
    · intro y0 y1 y2 y3 y4
      unfold changeforgelaw1_CommuteInverse.j0
      repeat' first
      | (with_reducible exact ih0 _ _ _ _ _)
      | (with_reducible exact ih1 _ _ _ _ _ _)
      | (with_reducible exact changeforgeequal_Patch.mono _ _ _)
      | (with_reducible exact changeforgelaw1_exchanged.mono _)
      | (with_reducible exact commute_Commute.mono _ _ _)
      | (with_reducible exact textpatch_Invert.mono _ _)
      | (with_reducible exact LeO.refl _)
      | (with_reducible exact LeO.none _)
      | (with_reducible refine LeO.ite ?_ ?_)
      | (with_reducible refine LeO.bind ?_ (fun _ => ?_))
      | exact ih0 _ _ _ _ _
      | exact ih1 _ _ _ _ _ _
      | exact changeforgeequal_Patch.mono _ _ _
      | exact changeforgelaw1_exchanged.mono _
      | exact commute_Commute.mono _ _ _
      | exact textpatch_Invert.mono _ _
      | exact LeO.none _
      | refine LeO.ite ?_ ?_
      | refine LeO.bind ?_ (fun _ => ?_)
    · intro y0 y1 y2 y3 y4 y5
      unfold changeforgelaw1_CommuteInverse.j1
      repeat' first
      | (with_reducible exact ih0 _ _ _ _ _)
      | (with_reducible exact ih1 _ _ _ _ _ _)
      | (with_reducible exact changeforgeequal_Patch.mono _ _ _)
      | (with_reducible exact changeforgelaw1_exchanged.mono _)
      | (with_reducible exact commute_Commute.mono _ _ _)
      | (with_reducible exact textpatch_Invert.mono _ _)
      | (with_reducible exact LeO.refl _)
      | (with_reducible exact LeO.none _)
      | (with_reducible refine LeO.ite ?_ ?_)
      | (with_reducible refine LeO.bind ?_ (fun _ => ?_))
      | exact ih0 _ _ _ _ _
      | exact ih1 _ _ _ _ _ _
      | exact changeforgeequal_Patch.mono _ _ _
      | exact changeforgelaw1_exchanged.mono _
      | exact commute_Commute.mono _ _ _
      | exact textpatch_Invert.mono _ _
      | exact LeO.none _
      | refine LeO.ite ?_ ?_
      | refine LeO.bind ?_ (fun _ => ?_)
theorem changeforgelaw1_CommuteInverse.mono : ∀ a0 a1 k, LeO (changeforgelaw1_CommuteInverse.f k a0 a1) (changeforgelaw1_CommuteInverse.f (k + 1) a0 a1) := by
  intro a0 a1 k
  obtain ⟨ih0, ih1⟩ := changeforgelaw1_CommuteInverse.mono_l k
  unfold changeforgelaw1_CommuteInverse.f
  repeat' first
      | (with_reducible exact ih0 _ _ _ _ _)
      | (with_reducible exact ih1 _ _ _ _ _ _)
      | (with_reducible exact changeforgeequal_Patch.mono _ _ _)
      | (with_reducible exact changeforgelaw1_exchanged.mono _)
      | (with_reducible exact commute_Commute.mono _ _ _)
      | (with_reducible exact textpatch_Invert.mono _ _)
      | (with_reducible exact LeO.refl _)
      | (with_reducible exact LeO.none _)
      | (with_reducible refine LeO.ite ?_ ?_)
      | (with_reducible refine LeO.bind ?_ (fun _ => ?_))
      | exact ih0 _ _ _ _ _
      | exact ih1 _ _ _ _ _ _
      | exact changeforgeequal_Patch.mono _ _ _
      | exact changeforgelaw1_exchanged.mono _
      | exact commute_Commute.mono _ _ _
      | exact textpatch_Invert.mono _ _
      | exact LeO.none _
      | refine LeO.ite ?_ ?_
      | refine LeO.bind ?_ (fun _ => ?_)
set_option maxHeartbeats 8000000 in
set_option maxRecDepth 100000 in
theorem changeforgelaw1_CommuteInverse.calls (k : Nat) (A0_0 : Option Addr) (c0_0 : Nat) (l0_0 : List (S47)) (A1_0 : Option Addr) (c1_0 : Nat) (l1_0 : List (S47)) (r : Bool) (w : World) (hr0_0 : Kd.C k47 w A0_0 l0_0.length l0_0) (hc0_0 : l0_0.length ≤ c0_0) (hr1_0 : Kd.C k47 w A1_0 l1_0.length l1_0) (hc1_0 : l1_0.length ≤ c1_0) (h : changeforgelaw1_CommuteInverse.f k l0_0 l1_0 = some r) (hrt : r = true) :
    Calls Try.prog 10 #[.agg #[.slice A0_0 l0_0.length c0_0], .agg #[.slice A1_0 l1_0.length c1_0]] w fun e w' => e = .returned (.bool r) ∧ Below w.heap.size w w' := by
  have hu24 := Try.underlying24;have hu27 := Try.underlying27;have HR0_0 := Aside0.mk hr0_0;have HC0_0 := Aside0.mk hc0_0;clear hr0_0 hc0_0;have HR1_0 := Aside0.mk hr1_0;have HC1_0 := Aside0.mk hc1_0;clear hr1_0 hc1_0;have HB := Aside0.mk (Below.refl w.heap.size w);have H : ((commute_Commute.f k l0_0 l1_0).bind fun bt296 => ((textpatch_Invert.f k l0_0).bind fun bt308 => ((textpatch_Invert.f k l1_0).bind fun bt315 => (if bt296.2.2.2.1 = 0 then (if bt308.2.1 = 0 then (if bt315.2.1 = 0 then (changeforgelaw1_CommuteInverse.j0 k (!bt296.2.2.1) bt296.1 bt296.2.1 bt308.1 bt315.1) else (changeforgelaw1_CommuteInverse.j0 k true bt296.1 bt296.2.1 bt308.1 bt315.1)) else (changeforgelaw1_CommuteInverse.j0 k true bt296.1 bt296.2.1 bt308.1 bt315.1)) else (changeforgelaw1_CommuteInverse.j0 k true bt296.1 bt296.2.1 bt308.1 bt315.1))))) = some r := h;clear h;replace H := Option.bind_eq_some_iff.mp H;obtain ⟨⟨t296, t299, t302, t303, t304⟩, A30, H⟩ := H;replace H : ((textpatch_Invert.f k l0_0).bind fun bt308 => ((textpatch_Invert.f k l1_0).bind fun bt315 => (if t303 = 0 then (if bt308.2.1 = 0 then (if bt315.2.1 = 0 then (changeforgelaw1_CommuteInverse.j0 k (!t302) t296 t299 bt308.1 bt315.1) else (changeforgelaw1_CommuteInverse.j0 k true t296 t299 bt308.1 bt315.1)) else (changeforgelaw1_CommuteInverse.j0 k true t296 t299 bt308.1 bt315.1)) else (changeforgelaw1_CommuteInverse.j0 k true t296 t299 bt308.1 bt315.1)))) = some r := H;have A3 := Aside0.mk A30;clear A30;replace H := Option.bind_eq_some_iff.mp H;obtain ⟨⟨t308, t311, t312⟩, A40, H⟩ := H;replace H : ((textpatch_Invert.f k l1_0).bind fun bt315 => (if t303 = 0 then (if t311 = 0 then (if bt315.2.1 = 0 then (changeforgelaw1_CommuteInverse.j0 k (!t302) t296 t299 t308 bt315.1) else (changeforgelaw1_CommuteInverse.j0 k true t296 t299 t308 bt315.1)) else (changeforgelaw1_CommuteInverse.j0 k true t296 t299 t308 bt315.1)) else (changeforgelaw1_CommuteInverse.j0 k true t296 t299 t308 bt315.1))) = some r := H;have A4 := Aside0.mk A40;clear A40;replace H := Option.bind_eq_some_iff.mp H;obtain ⟨⟨t315, t318, t319⟩, A50, H⟩ := H;replace H : (if t303 = 0 then (if t311 = 0 then (if t318 = 0 then (changeforgelaw1_CommuteInverse.j0 k (!t302) t296 t299 t308 t315) else (changeforgelaw1_CommuteInverse.j0 k true t296 t299 t308 t315)) else (changeforgelaw1_CommuteInverse.j0 k true t296 t299 t308 t315)) else (changeforgelaw1_CommuteInverse.j0 k true t296 t299 t308 t315)) = some r := H;have A5 := Aside0.mk A50;clear A50;have HC6 := Aside0.mk H;clear H
  go_enter Try.func10, Try.ntmps10
  go_upto_region 4 with (first|((with_reducible refine gate_dst (N := 2) rfl ?_);refine bE 2 #[.slice A0_0 l0_0.length c0_0] 24 ?_;intro gb294 hg w7 hbox hb;have BK294 := Aside0.mk (hbox);have GW294 := gBe HB hg;have GE294 := gBe HB hg;replace HB := sBe HB hb;clear hb hbox hg)|((with_reducible refine gate_dst (N := 3) rfl ?_);refine bE 3 #[.slice A1_0 l1_0.length c1_0] 24 ?_;intro gb295 hg w8 hbox hb;have BK295 := Aside0.mk (hbox);have GW295 := gBe HB hg;have GE295 := gBe HB hg;have NB294_295 := nL BK294 hg;have NB295_294 := nG BK294 hg;replace BK294 := lJ BK294 hb;replace HB := sBe HB hb;clear hb hbox hg;have hnb9 := eq_false NB294_295.out;have hnc9 := eq_false NB295_294.out;have hcz10_0 := hC BK294 0 (.slice A0_0 l0_0.length c0_0);have hfz10_0 := blk_frozen BK294.out 0;have hcz11_0 := hC BK295 0 (.slice A1_0 l1_0.length c1_0);have hfz11_0 := blk_frozen BK295.out 0)|((with_reducible refine gate_callee (f := 27) rfl ?_);refine goesL_ (some 24) rfl rfl Try.func27 (by kernel_rfl) rfl #[.agg #[.slice A0_0 l0_0.length c0_0], .agg #[.slice A1_0 l1_0.length c1_0]] rfl mA ?_;(with_reducible refine (commute_Commute.calls k _ _ l0_0 _ _ l1_0 t296 t299 t302 t303 t304 _ ?side1 ?side2 ?side3 ?side4 A3.out).mono ?_);(case side1 => exact cBe HR0_0);(case side2 => exact HC0_0.out);(case side3 => exact cBe HR1_0);(case side4 => exact HC1_0.out);rintro e w12 ⟨v297, v300, rfl, ho0, ho1, hb⟩;refine ⟨_, rfl, ?_⟩;have HO298 := Aside0.mk (Kd.V_lower (Kd.V_mono (ok' := fun k_ => k_ ≠ gb294 ∧ k_ ≠ gb295) ho0 (fun k_ hk_ => ⟨(Kd.freshB (g := gb294) (o := .cells #[.slice A0_0 l0_0.length c0_0] 24 (0, 0)) kK k_ hk_), (Kd.freshB (g := gb295) (o := .cells #[.slice A1_0 l1_0.length c1_0] 24 (0, 0)) kK k_ hk_)⟩)) (below_size eB));have HO301 := Aside0.mk (Kd.V_lower (Kd.V_mono (ok' := fun k_ => k_ ≠ gb294 ∧ k_ ≠ gb295) ho1 (fun k_ hk_ => ⟨(Kd.freshB (g := gb294) (o := .cells #[.slice A0_0 l0_0.length c0_0] 24 (0, 0)) kK k_ hk_), (Kd.freshB (g := gb295) (o := .cells #[.slice A1_0 l1_0.length c1_0] 24 (0, 0)) kK k_ hk_)⟩)) (below_size eB));replace BK294 := lJ BK294 hb;replace BK295 := lJ BK295 hb;replace HB := sBe HB hb;(try clear hb ho0 ho1))|((with_reducible refine gate_dst (N := 5) rfl ?_);refine bE 5 #[.slice none 0 0] 24 ?_;intro gb305 hg w13 hbox hb;have BK305 := Aside0.mk (hbox);have GW305 := gBe HB hg;have GE305 := gBe HB hg;have NB294_305 := nL BK294 hg;have NB305_294 := nG BK294 hg;have NB295_305 := nL BK295 hg;have NB305_295 := nG BK295 hg;replace HO298 := vE HO298 gb305 hg hb;replace HO301 := vE HO301 gb305 hg hb;replace BK294 := lJ BK294 hb;replace BK295 := lJ BK295 hb;replace HB := sBe HB hb;clear hb hbox hg)|((with_reducible refine gate_dst (N := 6) rfl ?_);refine bE 6 #[.slice none 0 0] 24 ?_;intro gb306 hg w14 hbox hb;have BK306 := Aside0.mk (hbox);have GW306 := gBe HB hg;have GE306 := gBe HB hg;have NB294_306 := nL BK294 hg;have NB306_294 := nG BK294 hg;have NB295_306 := nL BK295 hg;have NB306_295 := nG BK295 hg;have NB305_306 := nL BK305 hg;have NB306_305 := nG BK305 hg;replace HO298 := vE HO298 gb306 hg hb;replace HO301 := vE HO301 gb306 hg hb;replace BK294 := lJ BK294 hb;replace BK295 := lJ BK295 hb;replace BK305 := lJ BK305 hb;replace HB := sBe HB hb;clear hb hbox hg)|((with_reducible refine gate_dst (N := 8) rfl ?_);refine bE 8 #[.int .i64 0, .int .i64 0] 27 ?_;intro gb307 hg w15 hbox hb;have BK307 := Aside0.mk (hbox);have GW307 := gBe HB hg;have GE307 := gBe HB hg;have NB294_307 := nL BK294 hg;have NB307_294 := nG BK294 hg;have NB295_307 := nL BK295 hg;have NB307_295 := nG BK295 hg;have NB305_307 := nL BK305 hg;have NB307_305 := nG BK305 hg;have NB306_307 := nL BK306 hg;have NB307_306 := nG BK306 hg;replace HO298 := vE HO298 gb307 hg hb;replace HO301 := vE HO301 gb307 hg hb;replace BK294 := lJ BK294 hb;replace BK295 := lJ BK295 hb;replace BK305 := lJ BK305 hb;replace BK306 := lJ BK306 hb;replace HB := sBe HB hb;clear hb hbox hg;obtain ⟨Ao16, co16, eo16⟩ := Kd.V_slice HO298.out;subst eo16;have hnb17 := eq_false NB305_294.out;have hnc17 := eq_false NB294_305.out;have hnb18 := eq_false NB305_295.out;have hnc18 := eq_false NB295_305.out;have hnb19 := eq_false NB305_306.out;have hnc19 := eq_false NB306_305.out;have hnb20 := eq_false NB305_307.out;have hnc20 := eq_false NB307_305.out;have hcz21_0 := hC BK305 0 (.slice none 0 0);have hfz21_0 := blk_frozen BK305.out 0;obtain ⟨Ao22, co22, eo22⟩ := Kd.V_slice HO301.out;subst eo22;have hnb23 := eq_false NB306_294.out;have hnc23 := eq_false NB294_306.out;have hnb24 := eq_false NB306_295.out;have hnc24 := eq_false NB295_306.out;have hnb25 := eq_false NB306_307.out;have hnc25 := eq_false NB307_306.out;have hcz26_0 := hC BK306 0 (.slice none 0 0);have hfz26_0 := blk_frozen BK306.out 0;have hnb27 := eq_false NB307_294.out;have hnc27 := eq_false NB294_307.out;have hnb28 := eq_false NB307_295.out;have hnc28 := eq_false NB295_307.out;have hcz29_0 := hC BK307 0 (.int .i64 0);have hcz29_1 := hC BK307 1 (.int .i64 0);have hfz29_0 := blk_frozen BK307.out 0;have hfz29_1 := blk_frozen BK307.out 1;have hcz30_0 := hC BK294 0 (.slice A0_0 l0_0.length c0_0);have hfz30_0 := blk_frozen BK294.out 0)|((with_reducible refine gate_callee (f := 17) rfl ?_);refine goesL_ (some 31) rfl rfl Try.func17 (by kernel_rfl) rfl #[.agg #[.slice A0_0 l0_0.length c0_0]] rfl mA ?_;(with_reducible refine (textpatch_Invert.calls k _ _ l0_0 t308 t311 t312 _ ?side1 ?side2 A4.out).mono ?_);(case side1 => exact Kd.C_below HR0_0.out eB);(case side2 => exact HC0_0.out);rintro e w31 ⟨v309, rfl, ho0, hb⟩;refine ⟨_, rfl, ?_⟩;have HO310 := Aside0.mk (Kd.V_lower (Kd.V_mono (ok' := fun k_ => k_ ≠ gb294 ∧ k_ ≠ gb295 ∧ k_ ≠ gb305 ∧ k_ ≠ gb306 ∧ k_ ≠ gb307) ho0 (fun k_ hk_ => ⟨(Kd.freshB (g := gb294) (o := .cells #[.slice A0_0 l0_0.length c0_0] 24 (0, 0)) kK k_ hk_), (Kd.freshB (g := gb295) (o := .cells #[.slice A1_0 l1_0.length c1_0] 24 (0, 0)) kK k_ hk_), (Kd.freshB (g := gb305) (o := .cells #[.slice Ao16 t296.length co16] 24 (0, 0)) kK k_ hk_), (Kd.freshB (g := gb306) (o := .cells #[.slice Ao22 t299.length co22] 24 (0, 0)) kK k_ hk_), (Kd.freshB (g := gb307) (o := .cells #[.int .i64 t303, .int .i64 t304] 27 (0, 0)) kK k_ hk_)⟩)) (below_size eB));replace HO298 := Aside0.mk (Kd.V_below (by (with_reducible repeat (first|apply Kd.V_alloc|apply Kd.V_drewN|apply Kd.V_drew));exact (Kd.V_mono (Kd.V_mono (Kd.V_mono (Kd.V_far (p := ⟨gb307, 1, none⟩) (Kd.V_far (p := ⟨gb307, 0, none⟩) (Kd.V_far (p := ⟨gb306, 0, none⟩) (Kd.V_far (p := ⟨gb305, 0, none⟩) (Kd.V_mono (Kd.V_mono (Kd.V_mono HO298.out (fun k_ hk => (⟨hk, hk.1.1.2⟩ : _ ∧ k_ ≠ gb305))) (fun k_ hk => (⟨hk, hk.1.1.2⟩ : _ ∧ k_ ≠ gb306))) (fun k_ hk => (⟨hk, hk.1.1.2⟩ : _ ∧ k_ ≠ gb307))) (fun _ hk => hk.1.1.2) (.slice Ao16 t296.length co16)) (fun _ hk => hk.1.2) (.slice Ao22 t299.length co22)) (fun _ hk => hk.2) (.int .i64 t303)) (fun _ hk => hk.2) (.int .i64 t304)) (fun _ h_ => h_.1)) (fun _ h_ => h_.1)) (fun _ h_ => h_.1))) hb);replace HO301 := Aside0.mk (Kd.V_below (by (with_reducible repeat (first|apply Kd.V_alloc|apply Kd.V_drewN|apply Kd.V_drew));exact (Kd.V_mono (Kd.V_mono (Kd.V_mono (Kd.V_far (p := ⟨gb307, 1, none⟩) (Kd.V_far (p := ⟨gb307, 0, none⟩) (Kd.V_far (p := ⟨gb306, 0, none⟩) (Kd.V_far (p := ⟨gb305, 0, none⟩) (Kd.V_mono (Kd.V_mono (Kd.V_mono HO301.out (fun k_ hk => (⟨hk, hk.1.1.2⟩ : _ ∧ k_ ≠ gb305))) (fun k_ hk => (⟨hk, hk.1.1.2⟩ : _ ∧ k_ ≠ gb306))) (fun k_ hk => (⟨hk, hk.1.1.2⟩ : _ ∧ k_ ≠ gb307))) (fun _ hk => hk.1.1.2) (.slice Ao16 t296.length co16)) (fun _ hk => hk.1.2) (.slice Ao22 t299.length co22)) (fun _ hk => hk.2) (.int .i64 t303)) (fun _ hk => hk.2) (.int .i64 t304)) (fun _ h_ => h_.1)) (fun _ h_ => h_.1)) (fun _ h_ => h_.1))) hb);replace BK294 := lJ BK294 hb;replace BK295 := lJ BK295 hb;replace BK305 := lK gb305 24 #[.slice Ao16 t296.length co16] hb;replace BK306 := lK gb306 24 #[.slice Ao22 t299.length co22] hb;replace BK307 := lK gb307 27 #[.int .i64 t303, .int .i64 t304] hb;replace HB := sBe HB hb;(try clear hb ho0))|((with_reducible refine gate_dst (N := 9) rfl ?_);refine bE 9 #[.slice none 0 0] 24 ?_;intro gb313 hg w32 hbox hb;have BK313 := Aside0.mk (hbox);have GW313 := gBe HB hg;have GE313 := gBe HB hg;have NB294_313 := nL BK294 hg;have NB313_294 := nG BK294 hg;have NB295_313 := nL BK295 hg;have NB313_295 := nG BK295 hg;have NB305_313 := nL BK305 hg;have NB313_305 := nG BK305 hg;have NB306_313 := nL BK306 hg;have NB313_306 := nG BK306 hg;have NB307_313 := nL BK307 hg;have NB313_307 := nG BK307 hg;replace HO298 := vE HO298 gb313 hg hb;replace HO301 := vE HO301 gb313 hg hb;replace HO310 := vE HO310 gb313 hg hb;replace BK294 := lJ BK294 hb;replace BK295 := lJ BK295 hb;replace BK305 := lJ BK305 hb;replace BK306 := lJ BK306 hb;replace BK307 := lJ BK307 hb;replace HB := sBe HB hb;clear hb hbox hg)|((with_reducible refine gate_dst (N := 10) rfl ?_);refine bE 10 #[.int .i64 0, .int .i64 0] 27 ?_;intro gb314 hg w33 hbox hb;have BK314 := Aside0.mk (hbox);have GW314 := gBe HB hg;have GE314 := gBe HB hg;have NB294_314 := nL BK294 hg;have NB314_294 := nG BK294 hg;have NB295_314 := nL BK295 hg;have NB314_295 := nG BK295 hg;have NB305_314 := nL BK305 hg;have NB314_305 := nG BK305 hg;have NB306_314 := nL BK306 hg;have NB314_306 := nG BK306 hg;have NB307_314 := nL BK307 hg;have NB314_307 := nG BK307 hg;have NB313_314 := nL BK313 hg;have NB314_313 := nG BK313 hg;replace HO298 := vE HO298 gb314 hg hb;replace HO301 := vE HO301 gb314 hg hb;replace HO310 := vE HO310 gb314 hg hb;replace BK294 := lJ BK294 hb;replace BK295 := lJ BK295 hb;replace BK305 := lJ BK305 hb;replace BK306 := lJ BK306 hb;replace BK307 := lJ BK307 hb;replace BK313 := lJ BK313 hb;replace HB := sBe HB hb;clear hb hbox hg;obtain ⟨Ao34, co34, eo34⟩ := Kd.V_slice HO310.out;subst eo34;have hnb35 := eq_false NB313_294.out;have hnc35 := eq_false NB294_313.out;have hnb36 := eq_false NB313_295.out;have hnc36 := eq_false NB295_313.out;have hnb37 := eq_false NB313_305.out;have hnc37 := eq_false NB305_313.out;have hnb38 := eq_false NB313_306.out;have hnc38 := eq_false NB306_313.out;have hnb39 := eq_false NB313_307.out;have hnc39 := eq_false NB307_313.out;have hnb40 := eq_false NB313_314.out;have hnc40 := eq_false NB314_313.out;have hcz41_0 := hC BK313 0 (.slice none 0 0);have hfz41_0 := blk_frozen BK313.out 0;have hnb42 := eq_false NB314_294.out;have hnc42 := eq_false NB294_314.out;have hnb43 := eq_false NB314_295.out;have hnc43 := eq_false NB295_314.out;have hnb44 := eq_false NB314_305.out;have hnc44 := eq_false NB305_314.out;have hnb45 := eq_false NB314_306.out;have hnc45 := eq_false NB306_314.out;have hnb46 := eq_false NB314_307.out;have hnc46 := eq_false NB307_314.out;have hcz47_0 := hC BK314 0 (.int .i64 0);have hcz47_1 := hC BK314 1 (.int .i64 0);have hfz47_0 := blk_frozen BK314.out 0;have hfz47_1 := blk_frozen BK314.out 1;have hcz48_0 := hC BK295 0 (.slice A1_0 l1_0.length c1_0);have hfz48_0 := blk_frozen BK295.out 0)|((with_reducible refine gate_callee (f := 17) rfl ?_);refine goesL_ (some 36) rfl rfl Try.func17 (by kernel_rfl) rfl #[.agg #[.slice A1_0 l1_0.length c1_0]] rfl mA ?_;(with_reducible refine (textpatch_Invert.calls k _ _ l1_0 t315 t318 t319 _ ?side1 ?side2 A5.out).mono ?_);(case side1 => exact Kd.C_below HR1_0.out eB);(case side2 => exact HC1_0.out);rintro e w49 ⟨v316, rfl, ho0, hb⟩;refine ⟨_, rfl, ?_⟩;have HO317 := Aside0.mk (Kd.V_lower (Kd.V_mono (ok' := fun k_ => k_ ≠ gb294 ∧ k_ ≠ gb295 ∧ k_ ≠ gb305 ∧ k_ ≠ gb306 ∧ k_ ≠ gb307 ∧ k_ ≠ gb313 ∧ k_ ≠ gb314) ho0 (fun k_ hk_ => ⟨(Kd.freshB (g := gb294) (o := .cells #[.slice A0_0 l0_0.length c0_0] 24 (0, 0)) kK k_ hk_), (Kd.freshB (g := gb295) (o := .cells #[.slice A1_0 l1_0.length c1_0] 24 (0, 0)) kK k_ hk_), (Kd.freshB (g := gb305) (o := .cells #[.slice Ao16 t296.length co16] 24 (0, 0)) kK k_ hk_), (Kd.freshB (g := gb306) (o := .cells #[.slice Ao22 t299.length co22] 24 (0, 0)) kK k_ hk_), (Kd.freshB (g := gb307) (o := .cells #[.int .i64 t303, .int .i64 t304] 27 (0, 0)) kK k_ hk_), (Kd.freshB (g := gb313) (o := .cells #[.slice Ao34 t308.length co34] 24 (0, 0)) kK k_ hk_), (Kd.freshB (g := gb314) (o := .cells #[.int .i64 t311, .int .i64 t312] 27 (0, 0)) kK k_ hk_)⟩)) (below_size eB));replace HO298 := Aside0.mk (Kd.V_below (by (with_reducible repeat (first|apply Kd.V_alloc|apply Kd.V_drewN|apply Kd.V_drew));exact (Kd.V_mono (Kd.V_mono (Kd.V_far (p := ⟨gb314, 1, none⟩) (Kd.V_far (p := ⟨gb314, 0, none⟩) (Kd.V_far (p := ⟨gb313, 0, none⟩) (Kd.V_mono (Kd.V_mono HO298.out (fun k_ hk => (⟨hk, hk.1.2⟩ : _ ∧ k_ ≠ gb313))) (fun k_ hk => (⟨hk, hk.1.2⟩ : _ ∧ k_ ≠ gb314))) (fun _ hk => hk.1.2) (.slice Ao34 t308.length co34)) (fun _ hk => hk.2) (.int .i64 t311)) (fun _ hk => hk.2) (.int .i64 t312)) (fun _ h_ => h_.1)) (fun _ h_ => h_.1))) hb);replace HO301 := Aside0.mk (Kd.V_below (by (with_reducible repeat (first|apply Kd.V_alloc|apply Kd.V_drewN|apply Kd.V_drew));exact (Kd.V_mono (Kd.V_mono (Kd.V_far (p := ⟨gb314, 1, none⟩) (Kd.V_far (p := ⟨gb314, 0, none⟩) (Kd.V_far (p := ⟨gb313, 0, none⟩) (Kd.V_mono (Kd.V_mono HO301.out (fun k_ hk => (⟨hk, hk.1.2⟩ : _ ∧ k_ ≠ gb313))) (fun k_ hk => (⟨hk, hk.1.2⟩ : _ ∧ k_ ≠ gb314))) (fun _ hk => hk.1.2) (.slice Ao34 t308.length co34)) (fun _ hk => hk.2) (.int .i64 t311)) (fun _ hk => hk.2) (.int .i64 t312)) (fun _ h_ => h_.1)) (fun _ h_ => h_.1))) hb);replace HO310 := Aside0.mk (Kd.V_below (by (with_reducible repeat (first|apply Kd.V_alloc|apply Kd.V_drewN|apply Kd.V_drew));exact (Kd.V_mono (Kd.V_mono (Kd.V_far (p := ⟨gb314, 1, none⟩) (Kd.V_far (p := ⟨gb314, 0, none⟩) (Kd.V_far (p := ⟨gb313, 0, none⟩) (Kd.V_mono (Kd.V_mono HO310.out (fun k_ hk => (⟨hk, hk.1.2⟩ : _ ∧ k_ ≠ gb313))) (fun k_ hk => (⟨hk, hk.1.2⟩ : _ ∧ k_ ≠ gb314))) (fun _ hk => hk.1.2) (.slice Ao34 t308.length co34)) (fun _ hk => hk.2) (.int .i64 t311)) (fun _ hk => hk.2) (.int .i64 t312)) (fun _ h_ => h_.1)) (fun _ h_ => h_.1))) hb);replace BK294 := lJ BK294 hb;replace BK295 := lJ BK295 hb;replace BK305 := lJ BK305 hb;replace BK306 := lJ BK306 hb;replace BK307 := lJ BK307 hb;replace BK313 := lK gb313 24 #[.slice Ao34 t308.length co34] hb;replace BK314 := lK gb314 27 #[.int .i64 t311, .int .i64 t312] hb;replace HB := sBe HB hb;(try clear hb ho0))|((with_reducible refine gate_dst (N := 11) rfl ?_);refine bE 11 #[.slice none 0 0] 24 ?_;intro gb320 hg w50 hbox hb;have BK320 := Aside0.mk (hbox);have GW320 := gBe HB hg;have GE320 := gBe HB hg;have NB294_320 := nL BK294 hg;have NB320_294 := nG BK294 hg;have NB295_320 := nL BK295 hg;have NB320_295 := nG BK295 hg;have NB305_320 := nL BK305 hg;have NB320_305 := nG BK305 hg;have NB306_320 := nL BK306 hg;have NB320_306 := nG BK306 hg;have NB307_320 := nL BK307 hg;have NB320_307 := nG BK307 hg;have NB313_320 := nL BK313 hg;have NB320_313 := nG BK313 hg;have NB314_320 := nL BK314 hg;have NB320_314 := nG BK314 hg;replace HO298 := vE HO298 gb320 hg hb;replace HO301 := vE HO301 gb320 hg hb;replace HO310 := vE HO310 gb320 hg hb;replace HO317 := vE HO317 gb320 hg hb;replace BK294 := lJ BK294 hb;replace BK295 := lJ BK295 hb;replace BK305 := lJ BK305 hb;replace BK306 := lJ BK306 hb;replace BK307 := lJ BK307 hb;replace BK313 := lJ BK313 hb;replace BK314 := lJ BK314 hb;replace HB := sBe HB hb;clear hb hbox hg)|((with_reducible refine gate_dst (N := 12) rfl ?_);refine bE 12 #[.int .i64 0, .int .i64 0] 27 ?_;intro gb321 hg w51 hbox hb;have BK321 := Aside0.mk (hbox);have GW321 := gBe HB hg;have GE321 := gBe HB hg;have NB294_321 := nL BK294 hg;have NB321_294 := nG BK294 hg;have NB295_321 := nL BK295 hg;have NB321_295 := nG BK295 hg;have NB305_321 := nL BK305 hg;have NB321_305 := nG BK305 hg;have NB306_321 := nL BK306 hg;have NB321_306 := nG BK306 hg;have NB307_321 := nL BK307 hg;have NB321_307 := nG BK307 hg;have NB313_321 := nL BK313 hg;have NB321_313 := nG BK313 hg;have NB314_321 := nL BK314 hg;have NB321_314 := nG BK314 hg;have NB320_321 := nL BK320 hg;have NB321_320 := nG BK320 hg;replace HO298 := vE HO298 gb321 hg hb;replace HO301 := vE HO301 gb321 hg hb;replace HO310 := vE HO310 gb321 hg hb;replace HO317 := vE HO317 gb321 hg hb;replace BK294 := lJ BK294 hb;replace BK295 := lJ BK295 hb;replace BK305 := lJ BK305 hb;replace BK306 := lJ BK306 hb;replace BK307 := lJ BK307 hb;replace BK313 := lJ BK313 hb;replace BK314 := lJ BK314 hb;replace BK320 := lJ BK320 hb;replace HB := sBe HB hb;clear hb hbox hg;obtain ⟨Ao52, co52, eo52⟩ := Kd.V_slice HO317.out;subst eo52;have hnb53 := eq_false NB320_294.out;have hnc53 := eq_false NB294_320.out;have hnb54 := eq_false NB320_295.out;have hnc54 := eq_false NB295_320.out;have hnb55 := eq_false NB320_305.out;have hnc55 := eq_false NB305_320.out;have hnb56 := eq_false NB320_306.out;have hnc56 := eq_false NB306_320.out;have hnb57 := eq_false NB320_307.out;have hnc57 := eq_false NB307_320.out;have hnb58 := eq_false NB320_313.out;have hnc58 := eq_false NB313_320.out;have hnb59 := eq_false NB320_314.out;have hnc59 := eq_false NB314_320.out;have hnb60 := eq_false NB320_321.out;have hnc60 := eq_false NB321_320.out;have hcz61_0 := hC BK320 0 (.slice none 0 0);have hfz61_0 := blk_frozen BK320.out 0;have hnb62 := eq_false NB321_294.out;have hnc62 := eq_false NB294_321.out;have hnb63 := eq_false NB321_295.out;have hnc63 := eq_false NB295_321.out;have hnb64 := eq_false NB321_305.out;have hnc64 := eq_false NB305_321.out;have hnb65 := eq_false NB321_306.out;have hnc65 := eq_false NB306_321.out;have hnb66 := eq_false NB321_307.out;have hnc66 := eq_false NB307_321.out;have hnb67 := eq_false NB321_313.out;have hnc67 := eq_false NB313_321.out;have hnb68 := eq_false NB321_314.out;have hnc68 := eq_false NB314_321.out;have hcz69_0 := hC BK321 0 (.int .i64 0);have hcz69_1 := hC BK321 1 (.int .i64 0);have hfz69_0 := blk_frozen BK321.out 0;have hfz69_1 := blk_frozen BK321.out 1))
  (try simp only [Act.put, sA, sB, sC])
  go_cut [55] (fun v55 wc => ∃ (kq : Nat) (x55_5 : Bool), v55 = .bool x55_5 ∧ Aside0 (changeforgelaw1_CommuteInverse.j0 kq x55_5 t296 t299 t308 t315 = some r) ∧ Aside0 (kq ≤ k) ∧ Aside0 (Kd.V k47 47 wc w.heap.size (fun k_ => k_ ≠ gb294 ∧ k_ ≠ gb295 ∧ k_ ≠ gb305 ∧ k_ ≠ gb306 ∧ k_ ≠ gb307 ∧ k_ ≠ gb313 ∧ k_ ≠ gb314 ∧ k_ ≠ gb320 ∧ k_ ≠ gb321) (.slice Ao16 t296.length co16) t296) ∧ Aside0 (Kd.V k47 47 wc w.heap.size (fun k_ => k_ ≠ gb294 ∧ k_ ≠ gb295 ∧ k_ ≠ gb305 ∧ k_ ≠ gb306 ∧ k_ ≠ gb307 ∧ k_ ≠ gb313 ∧ k_ ≠ gb314 ∧ k_ ≠ gb320 ∧ k_ ≠ gb321) (.slice Ao22 t299.length co22) t299) ∧ Aside0 (Kd.V k47 47 wc w.heap.size (fun k_ => k_ ≠ gb294 ∧ k_ ≠ gb295 ∧ k_ ≠ gb305 ∧ k_ ≠ gb306 ∧ k_ ≠ gb307 ∧ k_ ≠ gb313 ∧ k_ ≠ gb314 ∧ k_ ≠ gb320 ∧ k_ ≠ gb321) (.slice Ao34 t308.length co34) t308) ∧ Aside0 (Kd.V k47 47 wc w.heap.size (fun k_ => k_ ≠ gb294 ∧ k_ ≠ gb295 ∧ k_ ≠ gb305 ∧ k_ ≠ gb306 ∧ k_ ≠ gb307 ∧ k_ ≠ gb313 ∧ k_ ≠ gb314 ∧ k_ ≠ gb320 ∧ k_ ≠ gb321) (.slice Ao52 t315.length co52) t315) ∧ Aside0 (wc.heap[gb294]? = some (.cells #[(.slice A0_0 l0_0.length c0_0)] 24 (0, 0))) ∧ Aside0 (wc.heap[gb295]? = some (.cells #[(.slice A1_0 l1_0.length c1_0)] 24 (0, 0))) ∧ Aside0 (wc.heap[gb305]? = some (.cells #[(.slice Ao16 t296.length co16)] 24 (0, 0))) ∧ Aside0 (wc.heap[gb306]? = some (.cells #[(.slice Ao22 t299.length co22)] 24 (0, 0))) ∧ Aside0 (wc.heap[gb307]? = some (.cells #[.int .i64 t303, .int .i64 t304] 27 (0, 0))) ∧ Aside0 (wc.heap[gb313]? = some (.cells #[(.slice Ao34 t308.length co34)] 24 (0, 0))) ∧ Aside0 (wc.heap[gb314]? = some (.cells #[.int .i64 t311, .int .i64 t312] 27 (0, 0))) ∧ Aside0 (wc.heap[gb320]? = some (.cells #[(.slice Ao52 t315.length co52)] 24 (0, 0))) ∧ Aside0 (wc.heap[gb321]? = some (.cells #[.int .i64 t318, .int .i64 t319] 27 (0, 0))) ∧ Aside0 (Below w.heap.size w wc))
  case first =>
    have H := HC6.out;clear HC6
    by_cases c70 : t303 = 0
    · rw [if_pos c70] at H;have c70b0 : (t303 == 0) = true := beq_iff_eq.mpr c70;have c70b1 : (t303 != 0) = false := bne_eq_false_iff_eq.mpr c70;clear c70
      (first|rw [c70b0]|(simp only [i64_w, i32_w];rw [c70b0])|skip)
      have hnb73 := eq_false NB307_294.out;have hnc73 := eq_false NB294_307.out;have hnb74 := eq_false NB307_295.out;have hnc74 := eq_false NB295_307.out;have hnb75 := eq_false NB307_305.out;have hnc75 := eq_false NB305_307.out;have hnb76 := eq_false NB307_306.out;have hnc76 := eq_false NB306_307.out;have hnb77 := eq_false NB307_313.out;have hnc77 := eq_false NB313_307.out;have hnb78 := eq_false NB307_314.out;have hnc78 := eq_false NB314_307.out;have hnb79 := eq_false NB307_320.out;have hnc79 := eq_false NB320_307.out;have hnb80 := eq_false NB307_321.out;have hnc80 := eq_false NB321_307.out;have hcz81_0 := hC BK307 0 (.int .i64 t303);have hcz81_1 := hC BK307 1 (.int .i64 t304);have hfz81_0 := blk_frozen BK307.out 0;have hfz81_1 := blk_frozen BK307.out 1;have hnb82 := eq_false NB314_294.out;have hnc82 := eq_false NB294_314.out;have hnb83 := eq_false NB314_295.out;have hnc83 := eq_false NB295_314.out;have hnb84 := eq_false NB314_305.out;have hnc84 := eq_false NB305_314.out;have hnb85 := eq_false NB314_306.out;have hnc85 := eq_false NB306_314.out;have hnb86 := eq_false NB314_313.out;have hnc86 := eq_false NB313_314.out;have hnb87 := eq_false NB314_320.out;have hnc87 := eq_false NB320_314.out;have hnb88 := eq_false NB314_321.out;have hnc88 := eq_false NB321_314.out;have hcz89_0 := hC BK314 0 (.int .i64 t311);have hcz89_1 := hC BK314 1 (.int .i64 t312);have hfz89_0 := blk_frozen BK314.out 0;have hfz89_1 := blk_frozen BK314.out 1
      by_cases c71 : t311 = 0
      · rw [if_pos c71] at H;have c71b0 : (t311 == 0) = true := beq_iff_eq.mpr c71;have c71b1 : (t311 != 0) = false := bne_eq_false_iff_eq.mpr c71;clear c71;have hnb90 := eq_false NB321_294.out;have hnc90 := eq_false NB294_321.out;have hnb91 := eq_false NB321_295.out;have hnc91 := eq_false NB295_321.out;have hnb92 := eq_false NB321_305.out;have hnc92 := eq_false NB305_321.out;have hnb93 := eq_false NB321_306.out;have hnc93 := eq_false NB306_321.out;have hnb94 := eq_false NB321_313.out;have hnc94 := eq_false NB313_321.out;have hnb95 := eq_false NB321_320.out;have hnc95 := eq_false NB320_321.out;have hcz96_0 := hC BK321 0 (.int .i64 0);have hcz96_1 := hC BK321 1 (.int .i64 0);have hfz96_0 := blk_frozen BK321.out 0;have hfz96_1 := blk_frozen BK321.out 1
        by_cases c72 : t318 = 0
        · rw [if_pos c72] at H;have c72b0 : (t318 == 0) = true := beq_iff_eq.mpr c72;have c72b1 : (t318 != 0) = false := bne_eq_false_iff_eq.mpr c72;clear c72;have H' := Aside0.mk H;clear H
          go_wp2
          go_meet
          case rel => exact ⟨_, (!t302), (by first|rfl|(simp only [i64_w, i32_w];done)|(simp only [i64_w, i32_w];rfl)|(simp;done)|(simp [*];done)), H', ⟨by first|omega|exact Nat.le_refl _⟩, ⟨by (with_reducible repeat (first|apply Kd.V_alloc|apply Kd.V_drewN|apply Kd.V_drew));exact Kd.V_mono (Kd.V_far (p := ⟨gb321, 1, none⟩) (Kd.V_far (p := ⟨gb321, 0, none⟩) (Kd.V_far (p := ⟨gb320, 0, none⟩) (Kd.V_mono (Kd.V_mono HO298.out (fun k_ hk => (⟨hk, hk.1.2⟩ : _ ∧ k_ ≠ gb320))) (fun k_ hk => (⟨hk, hk.1.2⟩ : _ ∧ k_ ≠ gb321))) (fun _ hk => hk.1.2) (.slice Ao52 t315.length co52)) (fun _ hk => hk.2) (.int .i64 t318)) (fun _ hk => hk.2) (.int .i64 t319)) (fun _ hk => ⟨hk.1.1.1.1.1.1.1.1.1.1, ⟨hk.1.1.1.1.1.1.1.1.1.2, ⟨hk.1.1.1.1.1.1.1.1.2, ⟨hk.1.1.1.1.1.1.1.2, ⟨hk.1.1.1.1.1.1.2, ⟨hk.1.1.1.1.1.2, ⟨hk.1.1.1.1.2, ⟨hk.1.1.1.2, hk.1.1.2⟩⟩⟩⟩⟩⟩⟩⟩)⟩, ⟨by (with_reducible repeat (first|apply Kd.V_alloc|apply Kd.V_drewN|apply Kd.V_drew));exact Kd.V_mono (Kd.V_far (p := ⟨gb321, 1, none⟩) (Kd.V_far (p := ⟨gb321, 0, none⟩) (Kd.V_far (p := ⟨gb320, 0, none⟩) (Kd.V_mono (Kd.V_mono HO301.out (fun k_ hk => (⟨hk, hk.1.2⟩ : _ ∧ k_ ≠ gb320))) (fun k_ hk => (⟨hk, hk.1.2⟩ : _ ∧ k_ ≠ gb321))) (fun _ hk => hk.1.2) (.slice Ao52 t315.length co52)) (fun _ hk => hk.2) (.int .i64 t318)) (fun _ hk => hk.2) (.int .i64 t319)) (fun _ hk => ⟨hk.1.1.1.1.1.1.1.1.1.1, ⟨hk.1.1.1.1.1.1.1.1.1.2, ⟨hk.1.1.1.1.1.1.1.1.2, ⟨hk.1.1.1.1.1.1.1.2, ⟨hk.1.1.1.1.1.1.2, ⟨hk.1.1.1.1.1.2, ⟨hk.1.1.1.1.2, ⟨hk.1.1.1.2, hk.1.1.2⟩⟩⟩⟩⟩⟩⟩⟩)⟩, ⟨by (with_reducible repeat (first|apply Kd.V_alloc|apply Kd.V_drewN|apply Kd.V_drew));exact Kd.V_mono (Kd.V_far (p := ⟨gb321, 1, none⟩) (Kd.V_far (p := ⟨gb321, 0, none⟩) (Kd.V_far (p := ⟨gb320, 0, none⟩) (Kd.V_mono (Kd.V_mono HO310.out (fun k_ hk => (⟨hk, hk.1.2⟩ : _ ∧ k_ ≠ gb320))) (fun k_ hk => (⟨hk, hk.1.2⟩ : _ ∧ k_ ≠ gb321))) (fun _ hk => hk.1.2) (.slice Ao52 t315.length co52)) (fun _ hk => hk.2) (.int .i64 t318)) (fun _ hk => hk.2) (.int .i64 t319)) (fun _ hk => ⟨hk.1.1.1.1.1.1.1, ⟨hk.1.1.1.1.1.1.2.1, ⟨hk.1.1.1.1.1.1.2.2.1, ⟨hk.1.1.1.1.1.1.2.2.2.1, ⟨hk.1.1.1.1.1.1.2.2.2.2, ⟨hk.1.1.1.1.1.2, ⟨hk.1.1.1.1.2, ⟨hk.1.1.1.2, hk.1.1.2⟩⟩⟩⟩⟩⟩⟩⟩)⟩, ⟨by (with_reducible repeat (first|apply Kd.V_alloc|apply Kd.V_drewN|apply Kd.V_drew));exact Kd.V_mono (Kd.V_far (p := ⟨gb321, 1, none⟩) (Kd.V_far (p := ⟨gb321, 0, none⟩) (Kd.V_far (p := ⟨gb320, 0, none⟩) (Kd.V_mono (Kd.V_mono HO317.out (fun k_ hk => (⟨hk, hk.1.2⟩ : _ ∧ k_ ≠ gb320))) (fun k_ hk => (⟨hk, hk.1.2⟩ : _ ∧ k_ ≠ gb321))) (fun _ hk => hk.1.2) (.slice Ao52 t315.length co52)) (fun _ hk => hk.2) (.int .i64 t318)) (fun _ hk => hk.2) (.int .i64 t319)) (fun _ hk => ⟨hk.1.1.1.1.1, ⟨hk.1.1.1.1.2.1, ⟨hk.1.1.1.1.2.2.1, ⟨hk.1.1.1.1.2.2.2.1, ⟨hk.1.1.1.1.2.2.2.2.1, ⟨hk.1.1.1.1.2.2.2.2.2.1, ⟨hk.1.1.1.1.2.2.2.2.2.2, ⟨hk.1.1.1.2, hk.1.1.2⟩⟩⟩⟩⟩⟩⟩⟩)⟩, ⟨kK⟩, ⟨kK⟩, ⟨kK⟩, ⟨kK⟩, ⟨kK⟩, ⟨kK⟩, ⟨kK⟩, ⟨kK⟩, ⟨kK⟩, ⟨eB⟩⟩
        · rw [if_neg c72] at H;have c72b0 : (t318 == 0) = false := beq_eq_false_iff_ne.mpr c72;have c72b1 : (t318 != 0) = true := bne_iff_ne.mpr c72;have H' := Aside0.mk H;clear H
          go_wp2
          go_meet
          case rel => exact ⟨_, (true), (by first|rfl|(simp only [i64_w, i32_w];done)|(simp only [i64_w, i32_w];rfl)|(simp;done)|(simp [*];done)), H', ⟨by first|omega|exact Nat.le_refl _⟩, ⟨by (with_reducible repeat (first|apply Kd.V_alloc|apply Kd.V_drewN|apply Kd.V_drew));exact Kd.V_mono (Kd.V_far (p := ⟨gb321, 1, none⟩) (Kd.V_far (p := ⟨gb321, 0, none⟩) (Kd.V_far (p := ⟨gb320, 0, none⟩) (Kd.V_mono (Kd.V_mono HO298.out (fun k_ hk => (⟨hk, hk.1.2⟩ : _ ∧ k_ ≠ gb320))) (fun k_ hk => (⟨hk, hk.1.2⟩ : _ ∧ k_ ≠ gb321))) (fun _ hk => hk.1.2) (.slice Ao52 t315.length co52)) (fun _ hk => hk.2) (.int .i64 t318)) (fun _ hk => hk.2) (.int .i64 t319)) (fun _ hk => ⟨hk.1.1.1.1.1.1.1.1.1.1, ⟨hk.1.1.1.1.1.1.1.1.1.2, ⟨hk.1.1.1.1.1.1.1.1.2, ⟨hk.1.1.1.1.1.1.1.2, ⟨hk.1.1.1.1.1.1.2, ⟨hk.1.1.1.1.1.2, ⟨hk.1.1.1.1.2, ⟨hk.1.1.1.2, hk.1.1.2⟩⟩⟩⟩⟩⟩⟩⟩)⟩, ⟨by (with_reducible repeat (first|apply Kd.V_alloc|apply Kd.V_drewN|apply Kd.V_drew));exact Kd.V_mono (Kd.V_far (p := ⟨gb321, 1, none⟩) (Kd.V_far (p := ⟨gb321, 0, none⟩) (Kd.V_far (p := ⟨gb320, 0, none⟩) (Kd.V_mono (Kd.V_mono HO301.out (fun k_ hk => (⟨hk, hk.1.2⟩ : _ ∧ k_ ≠ gb320))) (fun k_ hk => (⟨hk, hk.1.2⟩ : _ ∧ k_ ≠ gb321))) (fun _ hk => hk.1.2) (.slice Ao52 t315.length co52)) (fun _ hk => hk.2) (.int .i64 t318)) (fun _ hk => hk.2) (.int .i64 t319)) (fun _ hk => ⟨hk.1.1.1.1.1.1.1.1.1.1, ⟨hk.1.1.1.1.1.1.1.1.1.2, ⟨hk.1.1.1.1.1.1.1.1.2, ⟨hk.1.1.1.1.1.1.1.2, ⟨hk.1.1.1.1.1.1.2, ⟨hk.1.1.1.1.1.2, ⟨hk.1.1.1.1.2, ⟨hk.1.1.1.2, hk.1.1.2⟩⟩⟩⟩⟩⟩⟩⟩)⟩, ⟨by (with_reducible repeat (first|apply Kd.V_alloc|apply Kd.V_drewN|apply Kd.V_drew));exact Kd.V_mono (Kd.V_far (p := ⟨gb321, 1, none⟩) (Kd.V_far (p := ⟨gb321, 0, none⟩) (Kd.V_far (p := ⟨gb320, 0, none⟩) (Kd.V_mono (Kd.V_mono HO310.out (fun k_ hk => (⟨hk, hk.1.2⟩ : _ ∧ k_ ≠ gb320))) (fun k_ hk => (⟨hk, hk.1.2⟩ : _ ∧ k_ ≠ gb321))) (fun _ hk => hk.1.2) (.slice Ao52 t315.length co52)) (fun _ hk => hk.2) (.int .i64 t318)) (fun _ hk => hk.2) (.int .i64 t319)) (fun _ hk => ⟨hk.1.1.1.1.1.1.1, ⟨hk.1.1.1.1.1.1.2.1, ⟨hk.1.1.1.1.1.1.2.2.1, ⟨hk.1.1.1.1.1.1.2.2.2.1, ⟨hk.1.1.1.1.1.1.2.2.2.2, ⟨hk.1.1.1.1.1.2, ⟨hk.1.1.1.1.2, ⟨hk.1.1.1.2, hk.1.1.2⟩⟩⟩⟩⟩⟩⟩⟩)⟩, ⟨by (with_reducible repeat (first|apply Kd.V_alloc|apply Kd.V_drewN|apply Kd.V_drew));exact Kd.V_mono (Kd.V_far (p := ⟨gb321, 1, none⟩) (Kd.V_far (p := ⟨gb321, 0, none⟩) (Kd.V_far (p := ⟨gb320, 0, none⟩) (Kd.V_mono (Kd.V_mono HO317.out (fun k_ hk => (⟨hk, hk.1.2⟩ : _ ∧ k_ ≠ gb320))) (fun k_ hk => (⟨hk, hk.1.2⟩ : _ ∧ k_ ≠ gb321))) (fun _ hk => hk.1.2) (.slice Ao52 t315.length co52)) (fun _ hk => hk.2) (.int .i64 t318)) (fun _ hk => hk.2) (.int .i64 t319)) (fun _ hk => ⟨hk.1.1.1.1.1, ⟨hk.1.1.1.1.2.1, ⟨hk.1.1.1.1.2.2.1, ⟨hk.1.1.1.1.2.2.2.1, ⟨hk.1.1.1.1.2.2.2.2.1, ⟨hk.1.1.1.1.2.2.2.2.2.1, ⟨hk.1.1.1.1.2.2.2.2.2.2, ⟨hk.1.1.1.2, hk.1.1.2⟩⟩⟩⟩⟩⟩⟩⟩)⟩, ⟨kK⟩, ⟨kK⟩, ⟨kK⟩, ⟨kK⟩, ⟨kK⟩, ⟨kK⟩, ⟨kK⟩, ⟨kK⟩, ⟨kK⟩, ⟨eB⟩⟩
      · rw [if_neg c71] at H;have c71b0 : (t311 == 0) = false := beq_eq_false_iff_ne.mpr c71;have c71b1 : (t311 != 0) = true := bne_iff_ne.mpr c71;have H' := Aside0.mk H;clear H
        go_wp2
        go_meet
        case rel => exact ⟨_, (true), (by first|rfl|(simp only [i64_w, i32_w];done)|(simp only [i64_w, i32_w];rfl)|(simp;done)|(simp [*];done)), H', ⟨by first|omega|exact Nat.le_refl _⟩, ⟨by (with_reducible repeat (first|apply Kd.V_alloc|apply Kd.V_drewN|apply Kd.V_drew));exact Kd.V_mono (Kd.V_far (p := ⟨gb321, 1, none⟩) (Kd.V_far (p := ⟨gb321, 0, none⟩) (Kd.V_far (p := ⟨gb320, 0, none⟩) (Kd.V_mono (Kd.V_mono HO298.out (fun k_ hk => (⟨hk, hk.1.2⟩ : _ ∧ k_ ≠ gb320))) (fun k_ hk => (⟨hk, hk.1.2⟩ : _ ∧ k_ ≠ gb321))) (fun _ hk => hk.1.2) (.slice Ao52 t315.length co52)) (fun _ hk => hk.2) (.int .i64 t318)) (fun _ hk => hk.2) (.int .i64 t319)) (fun _ hk => ⟨hk.1.1.1.1.1.1.1.1.1.1, ⟨hk.1.1.1.1.1.1.1.1.1.2, ⟨hk.1.1.1.1.1.1.1.1.2, ⟨hk.1.1.1.1.1.1.1.2, ⟨hk.1.1.1.1.1.1.2, ⟨hk.1.1.1.1.1.2, ⟨hk.1.1.1.1.2, ⟨hk.1.1.1.2, hk.1.1.2⟩⟩⟩⟩⟩⟩⟩⟩)⟩, ⟨by (with_reducible repeat (first|apply Kd.V_alloc|apply Kd.V_drewN|apply Kd.V_drew));exact Kd.V_mono (Kd.V_far (p := ⟨gb321, 1, none⟩) (Kd.V_far (p := ⟨gb321, 0, none⟩) (Kd.V_far (p := ⟨gb320, 0, none⟩) (Kd.V_mono (Kd.V_mono HO301.out (fun k_ hk => (⟨hk, hk.1.2⟩ : _ ∧ k_ ≠ gb320))) (fun k_ hk => (⟨hk, hk.1.2⟩ : _ ∧ k_ ≠ gb321))) (fun _ hk => hk.1.2) (.slice Ao52 t315.length co52)) (fun _ hk => hk.2) (.int .i64 t318)) (fun _ hk => hk.2) (.int .i64 t319)) (fun _ hk => ⟨hk.1.1.1.1.1.1.1.1.1.1, ⟨hk.1.1.1.1.1.1.1.1.1.2, ⟨hk.1.1.1.1.1.1.1.1.2, ⟨hk.1.1.1.1.1.1.1.2, ⟨hk.1.1.1.1.1.1.2, ⟨hk.1.1.1.1.1.2, ⟨hk.1.1.1.1.2, ⟨hk.1.1.1.2, hk.1.1.2⟩⟩⟩⟩⟩⟩⟩⟩)⟩, ⟨by (with_reducible repeat (first|apply Kd.V_alloc|apply Kd.V_drewN|apply Kd.V_drew));exact Kd.V_mono (Kd.V_far (p := ⟨gb321, 1, none⟩) (Kd.V_far (p := ⟨gb321, 0, none⟩) (Kd.V_far (p := ⟨gb320, 0, none⟩) (Kd.V_mono (Kd.V_mono HO310.out (fun k_ hk => (⟨hk, hk.1.2⟩ : _ ∧ k_ ≠ gb320))) (fun k_ hk => (⟨hk, hk.1.2⟩ : _ ∧ k_ ≠ gb321))) (fun _ hk => hk.1.2) (.slice Ao52 t315.length co52)) (fun _ hk => hk.2) (.int .i64 t318)) (fun _ hk => hk.2) (.int .i64 t319)) (fun _ hk => ⟨hk.1.1.1.1.1.1.1, ⟨hk.1.1.1.1.1.1.2.1, ⟨hk.1.1.1.1.1.1.2.2.1, ⟨hk.1.1.1.1.1.1.2.2.2.1, ⟨hk.1.1.1.1.1.1.2.2.2.2, ⟨hk.1.1.1.1.1.2, ⟨hk.1.1.1.1.2, ⟨hk.1.1.1.2, hk.1.1.2⟩⟩⟩⟩⟩⟩⟩⟩)⟩, ⟨by (with_reducible repeat (first|apply Kd.V_alloc|apply Kd.V_drewN|apply Kd.V_drew));exact Kd.V_mono (Kd.V_far (p := ⟨gb321, 1, none⟩) (Kd.V_far (p := ⟨gb321, 0, none⟩) (Kd.V_far (p := ⟨gb320, 0, none⟩) (Kd.V_mono (Kd.V_mono HO317.out (fun k_ hk => (⟨hk, hk.1.2⟩ : _ ∧ k_ ≠ gb320))) (fun k_ hk => (⟨hk, hk.1.2⟩ : _ ∧ k_ ≠ gb321))) (fun _ hk => hk.1.2) (.slice Ao52 t315.length co52)) (fun _ hk => hk.2) (.int .i64 t318)) (fun _ hk => hk.2) (.int .i64 t319)) (fun _ hk => ⟨hk.1.1.1.1.1, ⟨hk.1.1.1.1.2.1, ⟨hk.1.1.1.1.2.2.1, ⟨hk.1.1.1.1.2.2.2.1, ⟨hk.1.1.1.1.2.2.2.2.1, ⟨hk.1.1.1.1.2.2.2.2.2.1, ⟨hk.1.1.1.1.2.2.2.2.2.2, ⟨hk.1.1.1.2, hk.1.1.2⟩⟩⟩⟩⟩⟩⟩⟩)⟩, ⟨kK⟩, ⟨kK⟩, ⟨kK⟩, ⟨kK⟩, ⟨kK⟩, ⟨kK⟩, ⟨kK⟩, ⟨kK⟩, ⟨kK⟩, ⟨eB⟩⟩
    · rw [if_neg c70] at H;have c70b0 : (t303 == 0) = false := beq_eq_false_iff_ne.mpr c70;have c70b1 : (t303 != 0) = true := bne_iff_ne.mpr c70
      (first|rw [c70b0]|(simp only [i64_w, i32_w];rw [c70b0])|skip)
      have H' := Aside0.mk H;clear H;have hnb138 := eq_false NB307_294.out;have hnc138 := eq_false NB294_307.out;have hnb139 := eq_false NB307_295.out;have hnc139 := eq_false NB295_307.out;have hnb140 := eq_false NB307_305.out;have hnc140 := eq_false NB305_307.out;have hnb141 := eq_false NB307_306.out;have hnc141 := eq_false NB306_307.out;have hnb142 := eq_false NB307_313.out;have hnc142 := eq_false NB313_307.out;have hnb143 := eq_false NB307_314.out;have hnc143 := eq_false NB314_307.out;have hnb144 := eq_false NB307_320.out;have hnc144 := eq_false NB320_307.out;have hnb145 := eq_false NB307_321.out;have hnc145 := eq_false NB321_307.out;have hcz146_0 := hC BK307 0 (.int .i64 t303);have hcz146_1 := hC BK307 1 (.int .i64 t304);have hfz146_0 := blk_frozen BK307.out 0;have hfz146_1 := blk_frozen BK307.out 1
      go_wp2
      go_meet
      case rel => exact ⟨_, (true), (by first|rfl|(simp only [i64_w, i32_w];done)|(simp only [i64_w, i32_w];rfl)|(simp;done)|(simp [*];done)), H', ⟨by first|omega|exact Nat.le_refl _⟩, ⟨by (with_reducible repeat (first|apply Kd.V_alloc|apply Kd.V_drewN|apply Kd.V_drew));exact Kd.V_mono (Kd.V_far (p := ⟨gb321, 1, none⟩) (Kd.V_far (p := ⟨gb321, 0, none⟩) (Kd.V_far (p := ⟨gb320, 0, none⟩) (Kd.V_mono (Kd.V_mono HO298.out (fun k_ hk => (⟨hk, hk.1.2⟩ : _ ∧ k_ ≠ gb320))) (fun k_ hk => (⟨hk, hk.1.2⟩ : _ ∧ k_ ≠ gb321))) (fun _ hk => hk.1.2) (.slice Ao52 t315.length co52)) (fun _ hk => hk.2) (.int .i64 t318)) (fun _ hk => hk.2) (.int .i64 t319)) (fun _ hk => ⟨hk.1.1.1.1.1.1.1.1.1.1, ⟨hk.1.1.1.1.1.1.1.1.1.2, ⟨hk.1.1.1.1.1.1.1.1.2, ⟨hk.1.1.1.1.1.1.1.2, ⟨hk.1.1.1.1.1.1.2, ⟨hk.1.1.1.1.1.2, ⟨hk.1.1.1.1.2, ⟨hk.1.1.1.2, hk.1.1.2⟩⟩⟩⟩⟩⟩⟩⟩)⟩, ⟨by (with_reducible repeat (first|apply Kd.V_alloc|apply Kd.V_drewN|apply Kd.V_drew));exact Kd.V_mono (Kd.V_far (p := ⟨gb321, 1, none⟩) (Kd.V_far (p := ⟨gb321, 0, none⟩) (Kd.V_far (p := ⟨gb320, 0, none⟩) (Kd.V_mono (Kd.V_mono HO301.out (fun k_ hk => (⟨hk, hk.1.2⟩ : _ ∧ k_ ≠ gb320))) (fun k_ hk => (⟨hk, hk.1.2⟩ : _ ∧ k_ ≠ gb321))) (fun _ hk => hk.1.2) (.slice Ao52 t315.length co52)) (fun _ hk => hk.2) (.int .i64 t318)) (fun _ hk => hk.2) (.int .i64 t319)) (fun _ hk => ⟨hk.1.1.1.1.1.1.1.1.1.1, ⟨hk.1.1.1.1.1.1.1.1.1.2, ⟨hk.1.1.1.1.1.1.1.1.2, ⟨hk.1.1.1.1.1.1.1.2, ⟨hk.1.1.1.1.1.1.2, ⟨hk.1.1.1.1.1.2, ⟨hk.1.1.1.1.2, ⟨hk.1.1.1.2, hk.1.1.2⟩⟩⟩⟩⟩⟩⟩⟩)⟩, ⟨by (with_reducible repeat (first|apply Kd.V_alloc|apply Kd.V_drewN|apply Kd.V_drew));exact Kd.V_mono (Kd.V_far (p := ⟨gb321, 1, none⟩) (Kd.V_far (p := ⟨gb321, 0, none⟩) (Kd.V_far (p := ⟨gb320, 0, none⟩) (Kd.V_mono (Kd.V_mono HO310.out (fun k_ hk => (⟨hk, hk.1.2⟩ : _ ∧ k_ ≠ gb320))) (fun k_ hk => (⟨hk, hk.1.2⟩ : _ ∧ k_ ≠ gb321))) (fun _ hk => hk.1.2) (.slice Ao52 t315.length co52)) (fun _ hk => hk.2) (.int .i64 t318)) (fun _ hk => hk.2) (.int .i64 t319)) (fun _ hk => ⟨hk.1.1.1.1.1.1.1, ⟨hk.1.1.1.1.1.1.2.1, ⟨hk.1.1.1.1.1.1.2.2.1, ⟨hk.1.1.1.1.1.1.2.2.2.1, ⟨hk.1.1.1.1.1.1.2.2.2.2, ⟨hk.1.1.1.1.1.2, ⟨hk.1.1.1.1.2, ⟨hk.1.1.1.2, hk.1.1.2⟩⟩⟩⟩⟩⟩⟩⟩)⟩, ⟨by (with_reducible repeat (first|apply Kd.V_alloc|apply Kd.V_drewN|apply Kd.V_drew));exact Kd.V_mono (Kd.V_far (p := ⟨gb321, 1, none⟩) (Kd.V_far (p := ⟨gb321, 0, none⟩) (Kd.V_far (p := ⟨gb320, 0, none⟩) (Kd.V_mono (Kd.V_mono HO317.out (fun k_ hk => (⟨hk, hk.1.2⟩ : _ ∧ k_ ≠ gb320))) (fun k_ hk => (⟨hk, hk.1.2⟩ : _ ∧ k_ ≠ gb321))) (fun _ hk => hk.1.2) (.slice Ao52 t315.length co52)) (fun _ hk => hk.2) (.int .i64 t318)) (fun _ hk => hk.2) (.int .i64 t319)) (fun _ hk => ⟨hk.1.1.1.1.1, ⟨hk.1.1.1.1.2.1, ⟨hk.1.1.1.1.2.2.1, ⟨hk.1.1.1.1.2.2.2.1, ⟨hk.1.1.1.1.2.2.2.2.1, ⟨hk.1.1.1.1.2.2.2.2.2.1, ⟨hk.1.1.1.1.2.2.2.2.2.2, ⟨hk.1.1.1.2, hk.1.1.2⟩⟩⟩⟩⟩⟩⟩⟩)⟩, ⟨kK⟩, ⟨kK⟩, ⟨kK⟩, ⟨kK⟩, ⟨kK⟩, ⟨kK⟩, ⟨kK⟩, ⟨kK⟩, ⟨kK⟩, ⟨eB⟩⟩
  case rest =>
    clear HC6
    try clear c1
    try clear c2
    try clear p2
    try clear c3
    try clear c4
    try clear c5
    try clear c6
    try clear c7
    try clear c8
    try clear c9
    try clear c10
    try clear c11
    try clear c12
    try clear c13
    try clear c14
    try clear c17
    try clear c18
    try clear c19
    try clear c20
    try clear c23
    try clear c24
    try clear c25
    try clear c27
    try clear c28
    try clear c35
    try clear c36
    try clear c37
    try clear c38
    try clear c39
    try clear c40
    try clear c42
    try clear c43
    try clear c44
    try clear c45
    try clear c46
    try clear c53
    try clear c54
    try clear c55
    try clear c56
    try clear c57
    try clear c58
    try clear c59
    try clear c60
    try clear c62
    try clear c63
    try clear c64
    try clear c65
    try clear c66
    try clear c67
    try clear c68
    try clear c70
    try clear c70b0
    try clear c70b1
    try clear c71
    try clear c71b0
    try clear c71b1
    try clear c72
    try clear c72b0
    try clear c72b1
    try clear c73
    try clear c74
    try clear c75
    try clear c76
    try clear c77
    try clear c78
    try clear c79
    try clear c80
    try clear c82
    try clear c83
    try clear c84
    try clear c85
    try clear c86
    try clear c87
    try clear c88
    try clear c90
    try clear c91
    try clear c92
    try clear c93
    try clear c94
    try clear c95
    try clear c97
    try clear c98
    try clear c99
    try clear c100
    try clear c101
    try clear c102
    try clear c103
    try clear c104
    try clear c106
    try clear c107
    try clear c108
    try clear c109
    try clear c110
    try clear c111
    try clear c112
    try clear c114
    try clear c115
    try clear c116
    try clear c117
    try clear c118
    try clear c119
    try clear c121
    try clear c122
    try clear c123
    try clear c124
    try clear c125
    try clear c126
    try clear c127
    try clear c128
    try clear c130
    try clear c131
    try clear c132
    try clear c133
    try clear c134
    try clear c135
    try clear c136
    try clear c138
    try clear c139
    try clear c140
    try clear c141
    try clear c142
    try clear c143
    try clear c144
    try clear c145
    try clear hcz105_0
    try clear hcz105_1
    try clear hcz10_0
    try clear hcz113_0
    try clear hcz113_1
    try clear hcz11_0
    try clear hcz120_0
    try clear hcz120_1
    try clear hcz129_0
    try clear hcz129_1
    try clear hcz137_0
    try clear hcz137_1
    try clear hcz146_0
    try clear hcz146_1
    try clear hcz21_0
    try clear hcz26_0
    try clear hcz29_0
    try clear hcz29_1
    try clear hcz30_0
    try clear hcz41_0
    try clear hcz47_0
    try clear hcz47_1
    try clear hcz48_0
    try clear hcz61_0
    try clear hcz69_0
    try clear hcz69_1
    try clear hcz81_0
    try clear hcz81_1
    try clear hcz89_0
    try clear hcz89_1
    try clear hcz96_0
    try clear hcz96_1
    try clear hfz105_0
    try clear hfz105_1
    try clear hfz10_0
    try clear hfz113_0
    try clear hfz113_1
    try clear hfz11_0
    try clear hfz120_0
    try clear hfz120_1
    try clear hfz129_0
    try clear hfz129_1
    try clear hfz137_0
    try clear hfz137_1
    try clear hfz146_0
    try clear hfz146_1
    try clear hfz21_0
    try clear hfz26_0
    try clear hfz29_0
    try clear hfz29_1
    try clear hfz30_0
    try clear hfz41_0
    try clear hfz47_0
    try clear hfz47_1
    try clear hfz48_0
    try clear hfz61_0
    try clear hfz69_0
    try clear hfz69_1
    try clear hfz81_0
    try clear hfz81_1
    try clear hfz89_0
    try clear hfz89_1
    try clear hfz96_0
    try clear hfz96_1
    obtain ⟨kq, x55_5, rfl, HA, HJ5, HO_306000, HO_307000, HO_314000, HO_321000, BK294, BK295, BK305, BK306, BK307, BK313, BK314, BK320, BK321, HB⟩ := hcut
    cases kq with
    | zero => exact absurd HA.out (by simp [changeforgelaw1_CommuteInverse.j0])
    | succ kj5 =>
      have H := HA.out;clear HA;simp only [changeforgelaw1_CommuteInverse.j0] at H
      by_cases c147 : x55_5 = true
      · subst c147;have H1 : ((changeforgelaw1_exchanged.f kj5).bind fun t322 => (some t322)) = some r := (by rw [if_pos rfl] at H;exact H);clear H;have H := H1;clear H1;replace H := Option.bind_eq_some_iff.mp H;obtain ⟨t322, A1480, H⟩ := H;replace H : (some t322) = some r := H;have A148 := Aside0.mk A1480;clear A1480;obtain rfl := Option.some.inj H
        go_wp2_with (first|((with_reducible refine gate_callee (f := 28) rfl ?_);refine goesL_ (some 56) rfl rfl Try.func28 (by kernel_rfl) rfl #[] rfl mA ?_;(with_reducible refine (changeforgelaw1_exchanged.calls kj5  t322 _ A148.out hrt).mono ?_);rintro e w149 ⟨rfl, hb⟩;refine ⟨_, rfl, ?_⟩;replace HO_306000 := Aside0.mk (Kd.V_below (vK HO_306000) hb);replace HO_307000 := Aside0.mk (Kd.V_below (vK HO_307000) hb);replace HO_314000 := Aside0.mk (Kd.V_below (vK HO_314000) hb);replace HO_321000 := Aside0.mk (Kd.V_below (vK HO_321000) hb);replace BK294 := lJ BK294 hb;replace BK295 := lJ BK295 hb;replace BK305 := lJ BK305 hb;replace BK306 := lJ BK306 hb;replace BK307 := lJ BK307 hb;replace BK313 := lJ BK313 hb;replace BK314 := lJ BK314 hb;replace BK320 := lJ BK320 hb;replace BK321 := lJ BK321 hb;replace HB := sBe HB hb;(try clear hb)))
        go_ret
        exact ⟨rW, eB⟩
      · replace c147 := Bool.eq_false_iff.mpr c147;subst c147;have H1 : ((commute_Commute.f kj5 t315 t308).bind fun bt323 => ((textpatch_Invert.f kj5 t299).bind fun bt335 => ((textpatch_Invert.f kj5 t296).bind fun bt342 => (if bt323.2.2.2.1 = 0 then (if bt335.2.1 = 0 then (changeforgelaw1_CommuteInverse.j1 kj5 bt323.2.2.1 (bt342.2.1 != 0) bt323.1 bt323.2.1 bt335.1 bt342.1) else (changeforgelaw1_CommuteInverse.j1 kj5 bt323.2.2.1 true bt323.1 bt323.2.1 bt335.1 bt342.1)) else (changeforgelaw1_CommuteInverse.j1 kj5 bt323.2.2.1 true bt323.1 bt323.2.1 bt335.1 bt342.1))))) = some r := (by rw [if_neg (show ¬ (false = true) by decide)] at H;exact H);clear H;have H := H1;clear H1;replace H := Option.bind_eq_some_iff.mp H;obtain ⟨⟨t323, t326, t329, t330, t331⟩, A1500, H⟩ := H;replace H : ((textpatch_Invert.f kj5 t299).bind fun bt335 => ((textpatch_Invert.f kj5 t296).bind fun bt342 => (if t330 = 0 then (if bt335.2.1 = 0 then (changeforgelaw1_CommuteInverse.j1 kj5 t329 (bt342.2.1 != 0) t323 t326 bt335.1 bt342.1) else (changeforgelaw1_CommuteInverse.j1 kj5 t329 true t323 t326 bt335.1 bt342.1)) else (changeforgelaw1_CommuteInverse.j1 kj5 t329 true t323 t326 bt335.1 bt342.1)))) = some r := H;have A150 := Aside0.mk A1500;clear A1500;replace H := Option.bind_eq_some_iff.mp H;obtain ⟨⟨t335, t338, t339⟩, A1510, H⟩ := H;replace H : ((textpatch_Invert.f kj5 t296).bind fun bt342 => (if t330 = 0 then (if t338 = 0 then (changeforgelaw1_CommuteInverse.j1 kj5 t329 (bt342.2.1 != 0) t323 t326 t335 bt342.1) else (changeforgelaw1_CommuteInverse.j1 kj5 t329 true t323 t326 t335 bt342.1)) else (changeforgelaw1_CommuteInverse.j1 kj5 t329 true t323 t326 t335 bt342.1))) = some r := H;have A151 := Aside0.mk A1510;clear A1510;replace H := Option.bind_eq_some_iff.mp H;obtain ⟨⟨t342, t345, t346⟩, A1520, H⟩ := H;replace H : (if t330 = 0 then (if t338 = 0 then (changeforgelaw1_CommuteInverse.j1 kj5 t329 (t345 != 0) t323 t326 t335 t342) else (changeforgelaw1_CommuteInverse.j1 kj5 t329 true t323 t326 t335 t342)) else (changeforgelaw1_CommuteInverse.j1 kj5 t329 true t323 t326 t335 t342)) = some r := H;have A152 := Aside0.mk A1520;clear A1520;have HC153 := Aside0.mk H;clear H;have hnb154 := eq_false NB320_294.out;have hnc154 := eq_false NB294_320.out;have hnb155 := eq_false NB320_295.out;have hnc155 := eq_false NB295_320.out;have hnb156 := eq_false NB320_305.out;have hnc156 := eq_false NB305_320.out;have hnb157 := eq_false NB320_306.out;have hnc157 := eq_false NB306_320.out;have hnb158 := eq_false NB320_307.out;have hnc158 := eq_false NB307_320.out;have hnb159 := eq_false NB320_313.out;have hnc159 := eq_false NB313_320.out;have hnb160 := eq_false NB320_314.out;have hnc160 := eq_false NB314_320.out;have hnb161 := eq_false NB320_321.out;have hnc161 := eq_false NB321_320.out;have hcz162_0 : wc.cell? ⟨gb320, 0, none⟩ = some (.slice Ao52 t315.length co52) := (blk_cell BK320.out 0).trans rfl;have hfz162_0 := blk_frozen BK320.out 0;have hnb163 := eq_false NB313_294.out;have hnc163 := eq_false NB294_313.out;have hnb164 := eq_false NB313_295.out;have hnc164 := eq_false NB295_313.out;have hnb165 := eq_false NB313_305.out;have hnc165 := eq_false NB305_313.out;have hnb166 := eq_false NB313_306.out;have hnc166 := eq_false NB306_313.out;have hnb167 := eq_false NB313_307.out;have hnc167 := eq_false NB307_313.out;have hnb168 := eq_false NB313_314.out;have hnc168 := eq_false NB314_313.out;have hnb169 := eq_false NB313_321.out;have hnc169 := eq_false NB321_313.out;have hcz170_0 : wc.cell? ⟨gb313, 0, none⟩ = some (.slice Ao34 t308.length co34) := (blk_cell BK313.out 0).trans rfl;have hfz170_0 := blk_frozen BK313.out 0
        go_upto_region 9 with (first|((with_reducible refine gate_callee (f := 27) rfl ?_);refine goesL_ (some 60) rfl rfl Try.func27 (by kernel_rfl) rfl #[.agg #[.slice Ao52 t315.length co52], .agg #[.slice Ao34 t308.length co34]] rfl mA ?_;(with_reducible refine (commute_Commute.calls kj5 _ _ t315 _ _ t308 t323 t326 t329 t330 t331 _ ?side1 ?side2 ?side3 ?side4 A150.out).mono ?_);(case side1 => repeat (first|exact (Kd.V_reads' HO_321000.out).2.2|(with_reducible refine Kd.C_alloc ?_ _)|(with_reducible refine Kd.C_drewN ?_ _)|(with_reducible refine Kd.C_drew ?_)));(case side2 => exact (Kd.V_reads' HO_321000.out).2.1);(case side3 => repeat (first|exact (Kd.V_reads' HO_314000.out).2.2|(with_reducible refine Kd.C_alloc ?_ _)|(with_reducible refine Kd.C_drewN ?_ _)|(with_reducible refine Kd.C_drew ?_)));(case side4 => exact (Kd.V_reads' HO_314000.out).2.1);rintro e w171 ⟨v324, v327, rfl, ho0, ho1, hb⟩;refine ⟨_, rfl, ?_⟩;have HO325 := Aside0.mk (Kd.V_lower (Kd.V_mono (ok' := fun k_ => k_ ≠ gb294 ∧ k_ ≠ gb295 ∧ k_ ≠ gb305 ∧ k_ ≠ gb306 ∧ k_ ≠ gb307 ∧ k_ ≠ gb313 ∧ k_ ≠ gb314 ∧ k_ ≠ gb320 ∧ k_ ≠ gb321) ho0 (fun k_ hk_ => ⟨(Kd.freshB (g := gb294) (o := .cells #[.slice A0_0 l0_0.length c0_0] 24 (0, 0)) kK k_ hk_), (Kd.freshB (g := gb295) (o := .cells #[.slice A1_0 l1_0.length c1_0] 24 (0, 0)) kK k_ hk_), (Kd.freshB (g := gb305) (o := .cells #[.slice Ao16 t296.length co16] 24 (0, 0)) kK k_ hk_), (Kd.freshB (g := gb306) (o := .cells #[.slice Ao22 t299.length co22] 24 (0, 0)) kK k_ hk_), (Kd.freshB (g := gb307) (o := .cells #[.int .i64 t303, .int .i64 t304] 27 (0, 0)) kK k_ hk_), (Kd.freshB (g := gb313) (o := .cells #[.slice Ao34 t308.length co34] 24 (0, 0)) kK k_ hk_), (Kd.freshB (g := gb314) (o := .cells #[.int .i64 t311, .int .i64 t312] 27 (0, 0)) kK k_ hk_), (Kd.freshB (g := gb320) (o := .cells #[.slice Ao52 t315.length co52] 24 (0, 0)) kK k_ hk_), (Kd.freshB (g := gb321) (o := .cells #[.int .i64 t318, .int .i64 t319] 27 (0, 0)) kK k_ hk_)⟩)) (below_size eB));have HO328 := Aside0.mk (Kd.V_lower (Kd.V_mono (ok' := fun k_ => k_ ≠ gb294 ∧ k_ ≠ gb295 ∧ k_ ≠ gb305 ∧ k_ ≠ gb306 ∧ k_ ≠ gb307 ∧ k_ ≠ gb313 ∧ k_ ≠ gb314 ∧ k_ ≠ gb320 ∧ k_ ≠ gb321) ho1 (fun k_ hk_ => ⟨(Kd.freshB (g := gb294) (o := .cells #[.slice A0_0 l0_0.length c0_0] 24 (0, 0)) kK k_ hk_), (Kd.freshB (g := gb295) (o := .cells #[.slice A1_0 l1_0.length c1_0] 24 (0, 0)) kK k_ hk_), (Kd.freshB (g := gb305) (o := .cells #[.slice Ao16 t296.length co16] 24 (0, 0)) kK k_ hk_), (Kd.freshB (g := gb306) (o := .cells #[.slice Ao22 t299.length co22] 24 (0, 0)) kK k_ hk_), (Kd.freshB (g := gb307) (o := .cells #[.int .i64 t303, .int .i64 t304] 27 (0, 0)) kK k_ hk_), (Kd.freshB (g := gb313) (o := .cells #[.slice Ao34 t308.length co34] 24 (0, 0)) kK k_ hk_), (Kd.freshB (g := gb314) (o := .cells #[.int .i64 t311, .int .i64 t312] 27 (0, 0)) kK k_ hk_), (Kd.freshB (g := gb320) (o := .cells #[.slice Ao52 t315.length co52] 24 (0, 0)) kK k_ hk_), (Kd.freshB (g := gb321) (o := .cells #[.int .i64 t318, .int .i64 t319] 27 (0, 0)) kK k_ hk_)⟩)) (below_size eB));replace HO_306000 := Aside0.mk (Kd.V_below (vK HO_306000) hb);replace HO_307000 := Aside0.mk (Kd.V_below (vK HO_307000) hb);replace HO_314000 := Aside0.mk (Kd.V_below (vK HO_314000) hb);replace HO_321000 := Aside0.mk (Kd.V_below (vK HO_321000) hb);replace BK294 := lJ BK294 hb;replace BK295 := lJ BK295 hb;replace BK305 := lJ BK305 hb;replace BK306 := lJ BK306 hb;replace BK307 := lJ BK307 hb;replace BK313 := lJ BK313 hb;replace BK314 := lJ BK314 hb;replace BK320 := lJ BK320 hb;replace BK321 := lJ BK321 hb;replace HB := sBe HB hb;(try clear hb ho0 ho1))|((with_reducible refine gate_dst (N := 13) rfl ?_);refine bE 13 #[.slice none 0 0] 24 ?_;intro gb332 hg w172 hbox hb;have BK332 := Aside0.mk (hbox);have GW332 := gBe HB hg;have GE332 := gBe HB hg;have NB294_332 := nL BK294 hg;have NB332_294 := nG BK294 hg;have NB295_332 := nL BK295 hg;have NB332_295 := nG BK295 hg;have NB305_332 := nL BK305 hg;have NB332_305 := nG BK305 hg;have NB306_332 := nL BK306 hg;have NB332_306 := nG BK306 hg;have NB307_332 := nL BK307 hg;have NB332_307 := nG BK307 hg;have NB313_332 := nL BK313 hg;have NB332_313 := nG BK313 hg;have NB314_332 := nL BK314 hg;have NB332_314 := nG BK314 hg;have NB320_332 := nL BK320 hg;have NB332_320 := nG BK320 hg;have NB321_332 := nL BK321 hg;have NB332_321 := nG BK321 hg;replace HO_306000 := vE HO_306000 gb332 hg hb;replace HO_307000 := vE HO_307000 gb332 hg hb;replace HO_314000 := vE HO_314000 gb332 hg hb;replace HO_321000 := vE HO_321000 gb332 hg hb;replace HO325 := vE HO325 gb332 hg hb;replace HO328 := vE HO328 gb332 hg hb;replace BK294 := lJ BK294 hb;replace BK295 := lJ BK295 hb;replace BK305 := lJ BK305 hb;replace BK306 := lJ BK306 hb;replace BK307 := lJ BK307 hb;replace BK313 := lJ BK313 hb;replace BK314 := lJ BK314 hb;replace BK320 := lJ BK320 hb;replace BK321 := lJ BK321 hb;replace HB := sBe HB hb;clear hb hbox hg)|((with_reducible refine gate_dst (N := 14) rfl ?_);refine bE 14 #[.slice none 0 0] 24 ?_;intro gb333 hg w173 hbox hb;have BK333 := Aside0.mk (hbox);have GW333 := gBe HB hg;have GE333 := gBe HB hg;have NB294_333 := nL BK294 hg;have NB333_294 := nG BK294 hg;have NB295_333 := nL BK295 hg;have NB333_295 := nG BK295 hg;have NB305_333 := nL BK305 hg;have NB333_305 := nG BK305 hg;have NB306_333 := nL BK306 hg;have NB333_306 := nG BK306 hg;have NB307_333 := nL BK307 hg;have NB333_307 := nG BK307 hg;have NB313_333 := nL BK313 hg;have NB333_313 := nG BK313 hg;have NB314_333 := nL BK314 hg;have NB333_314 := nG BK314 hg;have NB320_333 := nL BK320 hg;have NB333_320 := nG BK320 hg;have NB321_333 := nL BK321 hg;have NB333_321 := nG BK321 hg;have NB332_333 := nL BK332 hg;have NB333_332 := nG BK332 hg;replace HO_306000 := vE HO_306000 gb333 hg hb;replace HO_307000 := vE HO_307000 gb333 hg hb;replace HO_314000 := vE HO_314000 gb333 hg hb;replace HO_321000 := vE HO_321000 gb333 hg hb;replace HO325 := vE HO325 gb333 hg hb;replace HO328 := vE HO328 gb333 hg hb;replace BK294 := lJ BK294 hb;replace BK295 := lJ BK295 hb;replace BK305 := lJ BK305 hb;replace BK306 := lJ BK306 hb;replace BK307 := lJ BK307 hb;replace BK313 := lJ BK313 hb;replace BK314 := lJ BK314 hb;replace BK320 := lJ BK320 hb;replace BK321 := lJ BK321 hb;replace BK332 := lJ BK332 hb;replace HB := sBe HB hb;clear hb hbox hg)|((with_reducible refine gate_dst (N := 16) rfl ?_);refine bE 16 #[.int .i64 0, .int .i64 0] 27 ?_;intro gb334 hg w174 hbox hb;have BK334 := Aside0.mk (hbox);have GW334 := gBe HB hg;have GE334 := gBe HB hg;have NB294_334 := nL BK294 hg;have NB334_294 := nG BK294 hg;have NB295_334 := nL BK295 hg;have NB334_295 := nG BK295 hg;have NB305_334 := nL BK305 hg;have NB334_305 := nG BK305 hg;have NB306_334 := nL BK306 hg;have NB334_306 := nG BK306 hg;have NB307_334 := nL BK307 hg;have NB334_307 := nG BK307 hg;have NB313_334 := nL BK313 hg;have NB334_313 := nG BK313 hg;have NB314_334 := nL BK314 hg;have NB334_314 := nG BK314 hg;have NB320_334 := nL BK320 hg;have NB334_320 := nG BK320 hg;have NB321_334 := nL BK321 hg;have NB334_321 := nG BK321 hg;have NB332_334 := nL BK332 hg;have NB334_332 := nG BK332 hg;have NB333_334 := nL BK333 hg;have NB334_333 := nG BK333 hg;replace HO_306000 := vE HO_306000 gb334 hg hb;replace HO_307000 := vE HO_307000 gb334 hg hb;replace HO_314000 := vE HO_314000 gb334 hg hb;replace HO_321000 := vE HO_321000 gb334 hg hb;replace HO325 := vE HO325 gb334 hg hb;replace HO328 := vE HO328 gb334 hg hb;replace BK294 := lJ BK294 hb;replace BK295 := lJ BK295 hb;replace BK305 := lJ BK305 hb;replace BK306 := lJ BK306 hb;replace BK307 := lJ BK307 hb;replace BK313 := lJ BK313 hb;replace BK314 := lJ BK314 hb;replace BK320 := lJ BK320 hb;replace BK321 := lJ BK321 hb;replace BK332 := lJ BK332 hb;replace BK333 := lJ BK333 hb;replace HB := sBe HB hb;clear hb hbox hg;obtain ⟨Ao175, co175, eo175⟩ := Kd.V_slice HO325.out;subst eo175;have hnb176 := eq_false NB332_294.out;have hnc176 := eq_false NB294_332.out;have hnb177 := eq_false NB332_295.out;have hnc177 := eq_false NB295_332.out;have hnb178 := eq_false NB332_305.out;have hnc178 := eq_false NB305_332.out;have hnb179 := eq_false NB332_306.out;have hnc179 := eq_false NB306_332.out;have hnb180 := eq_false NB332_307.out;have hnc180 := eq_false NB307_332.out;have hnb181 := eq_false NB332_313.out;have hnc181 := eq_false NB313_332.out;have hnb182 := eq_false NB332_314.out;have hnc182 := eq_false NB314_332.out;have hnb183 := eq_false NB332_320.out;have hnc183 := eq_false NB320_332.out;have hnb184 := eq_false NB332_321.out;have hnc184 := eq_false NB321_332.out;have hnb185 := eq_false NB332_333.out;have hnc185 := eq_false NB333_332.out;have hnb186 := eq_false NB332_334.out;have hnc186 := eq_false NB334_332.out;have hcz187_0 := hC BK332 0 (.slice none 0 0);have hfz187_0 := blk_frozen BK332.out 0;obtain ⟨Ao188, co188, eo188⟩ := Kd.V_slice HO328.out;subst eo188;have hnb189 := eq_false NB333_294.out;have hnc189 := eq_false NB294_333.out;have hnb190 := eq_false NB333_295.out;have hnc190 := eq_false NB295_333.out;have hnb191 := eq_false NB333_305.out;have hnc191 := eq_false NB305_333.out;have hnb192 := eq_false NB333_306.out;have hnc192 := eq_false NB306_333.out;have hnb193 := eq_false NB333_307.out;have hnc193 := eq_false NB307_333.out;have hnb194 := eq_false NB333_313.out;have hnc194 := eq_false NB313_333.out;have hnb195 := eq_false NB333_314.out;have hnc195 := eq_false NB314_333.out;have hnb196 := eq_false NB333_320.out;have hnc196 := eq_false NB320_333.out;have hnb197 := eq_false NB333_321.out;have hnc197 := eq_false NB321_333.out;have hnb198 := eq_false NB333_334.out;have hnc198 := eq_false NB334_333.out;have hcz199_0 := hC BK333 0 (.slice none 0 0);have hfz199_0 := blk_frozen BK333.out 0;have hnb200 := eq_false NB334_294.out;have hnc200 := eq_false NB294_334.out;have hnb201 := eq_false NB334_295.out;have hnc201 := eq_false NB295_334.out;have hnb202 := eq_false NB334_305.out;have hnc202 := eq_false NB305_334.out;have hnb203 := eq_false NB334_306.out;have hnc203 := eq_false NB306_334.out;have hnb204 := eq_false NB334_307.out;have hnc204 := eq_false NB307_334.out;have hnb205 := eq_false NB334_313.out;have hnc205 := eq_false NB313_334.out;have hnb206 := eq_false NB334_314.out;have hnc206 := eq_false NB314_334.out;have hnb207 := eq_false NB334_320.out;have hnc207 := eq_false NB320_334.out;have hnb208 := eq_false NB334_321.out;have hnc208 := eq_false NB321_334.out;have hcz209_0 := hC BK334 0 (.int .i64 0);have hcz209_1 := hC BK334 1 (.int .i64 0);have hfz209_0 := blk_frozen BK334.out 0;have hfz209_1 := blk_frozen BK334.out 1;have hnb210 := eq_false NB306_294.out;have hnc210 := eq_false NB294_306.out;have hnb211 := eq_false NB306_295.out;have hnc211 := eq_false NB295_306.out;have hnb212 := eq_false NB306_305.out;have hnc212 := eq_false NB305_306.out;have hnb213 := eq_false NB306_307.out;have hnc213 := eq_false NB307_306.out;have hnb214 := eq_false NB306_314.out;have hnc214 := eq_false NB314_306.out;have hnb215 := eq_false NB306_321.out;have hnc215 := eq_false NB321_306.out;have hcz216_0 := hC BK306 0 (.slice Ao22 t299.length co22);have hfz216_0 := blk_frozen BK306.out 0)|((with_reducible refine gate_callee (f := 17) rfl ?_);refine goesL_ (some 67) rfl rfl Try.func17 (by kernel_rfl) rfl #[.agg #[.slice Ao22 t299.length co22]] rfl mA ?_;(with_reducible refine (textpatch_Invert.calls kj5 _ _ t299 t335 t338 t339 _ ?side1 ?side2 A151.out).mono ?_);(case side1 => refine (Kd.V_reads' (e := 47) (base := w.heap.size) (ok := fun k_ => ((((k_ ≠ gb294 ∧ (k_ ≠ gb295 ∧ (k_ ≠ gb305 ∧ (k_ ≠ gb306 ∧ (k_ ≠ gb307 ∧ (k_ ≠ gb313 ∧ (k_ ≠ gb314 ∧ (k_ ≠ gb320 ∧ k_ ≠ gb321)))))))) ∧ k_ ≠ gb332) ∧ k_ ≠ gb333) ∧ k_ ≠ gb334)) (n := t299.length) (c := co22) ?_).2.2;exact (by (with_reducible repeat (first|apply Kd.V_alloc|apply Kd.V_drewN|apply Kd.V_drew));exact (Kd.V_mono (Kd.V_mono (Kd.V_mono (Kd.V_far (p := ⟨gb334, 1, none⟩) (Kd.V_far (p := ⟨gb334, 0, none⟩) (Kd.V_far (p := ⟨gb333, 0, none⟩) (Kd.V_far (p := ⟨gb332, 0, none⟩) (Kd.V_mono (Kd.V_mono (Kd.V_mono HO_307000.out (fun k_ hk => (⟨hk, hk.1.1.2⟩ : _ ∧ k_ ≠ gb332))) (fun k_ hk => (⟨hk, hk.1.1.2⟩ : _ ∧ k_ ≠ gb333))) (fun k_ hk => (⟨hk, hk.1.1.2⟩ : _ ∧ k_ ≠ gb334))) (fun _ hk => hk.1.1.2) (.slice Ao175 t323.length co175)) (fun _ hk => hk.1.2) (.slice Ao188 t326.length co188)) (fun _ hk => hk.2) (.int .i64 t330)) (fun _ hk => hk.2) (.int .i64 t331)) (fun _ h_ => h_.1)) (fun _ h_ => h_.1)) (fun _ h_ => h_.1))));(case side2 => exact (Kd.V_reads' HO_307000.out).2.1);rintro e w217 ⟨v336, rfl, ho0, hb⟩;refine ⟨_, rfl, ?_⟩;have HO337 := Aside0.mk (Kd.V_lower (Kd.V_mono (ok' := fun k_ => k_ ≠ gb294 ∧ k_ ≠ gb295 ∧ k_ ≠ gb305 ∧ k_ ≠ gb306 ∧ k_ ≠ gb307 ∧ k_ ≠ gb313 ∧ k_ ≠ gb314 ∧ k_ ≠ gb320 ∧ k_ ≠ gb321 ∧ k_ ≠ gb332 ∧ k_ ≠ gb333 ∧ k_ ≠ gb334) ho0 (fun k_ hk_ => ⟨(Kd.freshB (g := gb294) (o := .cells #[.slice A0_0 l0_0.length c0_0] 24 (0, 0)) kK k_ hk_), (Kd.freshB (g := gb295) (o := .cells #[.slice A1_0 l1_0.length c1_0] 24 (0, 0)) kK k_ hk_), (Kd.freshB (g := gb305) (o := .cells #[.slice Ao16 t296.length co16] 24 (0, 0)) kK k_ hk_), (Kd.freshB (g := gb306) (o := .cells #[.slice Ao22 t299.length co22] 24 (0, 0)) kK k_ hk_), (Kd.freshB (g := gb307) (o := .cells #[.int .i64 t303, .int .i64 t304] 27 (0, 0)) kK k_ hk_), (Kd.freshB (g := gb313) (o := .cells #[.slice Ao34 t308.length co34] 24 (0, 0)) kK k_ hk_), (Kd.freshB (g := gb314) (o := .cells #[.int .i64 t311, .int .i64 t312] 27 (0, 0)) kK k_ hk_), (Kd.freshB (g := gb320) (o := .cells #[.slice Ao52 t315.length co52] 24 (0, 0)) kK k_ hk_), (Kd.freshB (g := gb321) (o := .cells #[.int .i64 t318, .int .i64 t319] 27 (0, 0)) kK k_ hk_), (Kd.freshB (g := gb332) (o := .cells #[.slice Ao175 t323.length co175] 24 (0, 0)) kK k_ hk_), (Kd.freshB (g := gb333) (o := .cells #[.slice Ao188 t326.length co188] 24 (0, 0)) kK k_ hk_), (Kd.freshB (g := gb334) (o := .cells #[.int .i64 t330, .int .i64 t331] 27 (0, 0)) kK k_ hk_)⟩)) (below_size eB));replace HO_306000 := Aside0.mk (Kd.V_below (by (with_reducible repeat (first|apply Kd.V_alloc|apply Kd.V_drewN|apply Kd.V_drew));exact (Kd.V_mono (Kd.V_mono (Kd.V_mono (Kd.V_far (p := ⟨gb334, 1, none⟩) (Kd.V_far (p := ⟨gb334, 0, none⟩) (Kd.V_far (p := ⟨gb333, 0, none⟩) (Kd.V_far (p := ⟨gb332, 0, none⟩) (Kd.V_mono (Kd.V_mono (Kd.V_mono HO_306000.out (fun k_ hk => (⟨hk, hk.1.1.2⟩ : _ ∧ k_ ≠ gb332))) (fun k_ hk => (⟨hk, hk.1.1.2⟩ : _ ∧ k_ ≠ gb333))) (fun k_ hk => (⟨hk, hk.1.1.2⟩ : _ ∧ k_ ≠ gb334))) (fun _ hk => hk.1.1.2) (.slice Ao175 t323.length co175)) (fun _ hk => hk.1.2) (.slice Ao188 t326.length co188)) (fun _ hk => hk.2) (.int .i64 t330)) (fun _ hk => hk.2) (.int .i64 t331)) (fun _ h_ => h_.1)) (fun _ h_ => h_.1)) (fun _ h_ => h_.1))) hb);replace HO_307000 := Aside0.mk (Kd.V_below (by (with_reducible repeat (first|apply Kd.V_alloc|apply Kd.V_drewN|apply Kd.V_drew));exact (Kd.V_mono (Kd.V_mono (Kd.V_mono (Kd.V_far (p := ⟨gb334, 1, none⟩) (Kd.V_far (p := ⟨gb334, 0, none⟩) (Kd.V_far (p := ⟨gb333, 0, none⟩) (Kd.V_far (p := ⟨gb332, 0, none⟩) (Kd.V_mono (Kd.V_mono (Kd.V_mono HO_307000.out (fun k_ hk => (⟨hk, hk.1.1.2⟩ : _ ∧ k_ ≠ gb332))) (fun k_ hk => (⟨hk, hk.1.1.2⟩ : _ ∧ k_ ≠ gb333))) (fun k_ hk => (⟨hk, hk.1.1.2⟩ : _ ∧ k_ ≠ gb334))) (fun _ hk => hk.1.1.2) (.slice Ao175 t323.length co175)) (fun _ hk => hk.1.2) (.slice Ao188 t326.length co188)) (fun _ hk => hk.2) (.int .i64 t330)) (fun _ hk => hk.2) (.int .i64 t331)) (fun _ h_ => h_.1)) (fun _ h_ => h_.1)) (fun _ h_ => h_.1))) hb);replace HO_314000 := Aside0.mk (Kd.V_below (by (with_reducible repeat (first|apply Kd.V_alloc|apply Kd.V_drewN|apply Kd.V_drew));exact (Kd.V_mono (Kd.V_mono (Kd.V_mono (Kd.V_far (p := ⟨gb334, 1, none⟩) (Kd.V_far (p := ⟨gb334, 0, none⟩) (Kd.V_far (p := ⟨gb333, 0, none⟩) (Kd.V_far (p := ⟨gb332, 0, none⟩) (Kd.V_mono (Kd.V_mono (Kd.V_mono HO_314000.out (fun k_ hk => (⟨hk, hk.1.1.2⟩ : _ ∧ k_ ≠ gb332))) (fun k_ hk => (⟨hk, hk.1.1.2⟩ : _ ∧ k_ ≠ gb333))) (fun k_ hk => (⟨hk, hk.1.1.2⟩ : _ ∧ k_ ≠ gb334))) (fun _ hk => hk.1.1.2) (.slice Ao175 t323.length co175)) (fun _ hk => hk.1.2) (.slice Ao188 t326.length co188)) (fun _ hk => hk.2) (.int .i64 t330)) (fun _ hk => hk.2) (.int .i64 t331)) (fun _ h_ => h_.1)) (fun _ h_ => h_.1)) (fun _ h_ => h_.1))) hb);replace HO_321000 := Aside0.mk (Kd.V_below (by (with_reducible repeat (first|apply Kd.V_alloc|apply Kd.V_drewN|apply Kd.V_drew));exact (Kd.V_mono (Kd.V_mono (Kd.V_mono (Kd.V_far (p := ⟨gb334, 1, none⟩) (Kd.V_far (p := ⟨gb334, 0, none⟩) (Kd.V_far (p := ⟨gb333, 0, none⟩) (Kd.V_far (p := ⟨gb332, 0, none⟩) (Kd.V_mono (Kd.V_mono (Kd.V_mono HO_321000.out (fun k_ hk => (⟨hk, hk.1.1.2⟩ : _ ∧ k_ ≠ gb332))) (fun k_ hk => (⟨hk, hk.1.1.2⟩ : _ ∧ k_ ≠ gb333))) (fun k_ hk => (⟨hk, hk.1.1.2⟩ : _ ∧ k_ ≠ gb334))) (fun _ hk => hk.1.1.2) (.slice Ao175 t323.length co175)) (fun _ hk => hk.1.2) (.slice Ao188 t326.length co188)) (fun _ hk => hk.2) (.int .i64 t330)) (fun _ hk => hk.2) (.int .i64 t331)) (fun _ h_ => h_.1)) (fun _ h_ => h_.1)) (fun _ h_ => h_.1))) hb);replace HO325 := Aside0.mk (Kd.V_below (by (with_reducible repeat (first|apply Kd.V_alloc|apply Kd.V_drewN|apply Kd.V_drew));exact (Kd.V_mono (Kd.V_mono (Kd.V_mono (Kd.V_far (p := ⟨gb334, 1, none⟩) (Kd.V_far (p := ⟨gb334, 0, none⟩) (Kd.V_far (p := ⟨gb333, 0, none⟩) (Kd.V_far (p := ⟨gb332, 0, none⟩) (Kd.V_mono (Kd.V_mono (Kd.V_mono HO325.out (fun k_ hk => (⟨hk, hk.1.1.2⟩ : _ ∧ k_ ≠ gb332))) (fun k_ hk => (⟨hk, hk.1.1.2⟩ : _ ∧ k_ ≠ gb333))) (fun k_ hk => (⟨hk, hk.1.1.2⟩ : _ ∧ k_ ≠ gb334))) (fun _ hk => hk.1.1.2) (.slice Ao175 t323.length co175)) (fun _ hk => hk.1.2) (.slice Ao188 t326.length co188)) (fun _ hk => hk.2) (.int .i64 t330)) (fun _ hk => hk.2) (.int .i64 t331)) (fun _ h_ => h_.1)) (fun _ h_ => h_.1)) (fun _ h_ => h_.1))) hb);replace HO328 := Aside0.mk (Kd.V_below (by (with_reducible repeat (first|apply Kd.V_alloc|apply Kd.V_drewN|apply Kd.V_drew));exact (Kd.V_mono (Kd.V_mono (Kd.V_mono (Kd.V_far (p := ⟨gb334, 1, none⟩) (Kd.V_far (p := ⟨gb334, 0, none⟩) (Kd.V_far (p := ⟨gb333, 0, none⟩) (Kd.V_far (p := ⟨gb332, 0, none⟩) (Kd.V_mono (Kd.V_mono (Kd.V_mono HO328.out (fun k_ hk => (⟨hk, hk.1.1.2⟩ : _ ∧ k_ ≠ gb332))) (fun k_ hk => (⟨hk, hk.1.1.2⟩ : _ ∧ k_ ≠ gb333))) (fun k_ hk => (⟨hk, hk.1.1.2⟩ : _ ∧ k_ ≠ gb334))) (fun _ hk => hk.1.1.2) (.slice Ao175 t323.length co175)) (fun _ hk => hk.1.2) (.slice Ao188 t326.length co188)) (fun _ hk => hk.2) (.int .i64 t330)) (fun _ hk => hk.2) (.int .i64 t331)) (fun _ h_ => h_.1)) (fun _ h_ => h_.1)) (fun _ h_ => h_.1))) hb);replace BK294 := lJ BK294 hb;replace BK295 := lJ BK295 hb;replace BK305 := lJ BK305 hb;replace BK306 := lJ BK306 hb;replace BK307 := lJ BK307 hb;replace BK313 := lJ BK313 hb;replace BK314 := lJ BK314 hb;replace BK320 := lJ BK320 hb;replace BK321 := lJ BK321 hb;replace BK332 := lK gb332 24 #[.slice Ao175 t323.length co175] hb;replace BK333 := lK gb333 24 #[.slice Ao188 t326.length co188] hb;replace BK334 := lK gb334 27 #[.int .i64 t330, .int .i64 t331] hb;replace HB := sBe HB hb;(try clear hb ho0))|((with_reducible refine gate_dst (N := 17) rfl ?_);refine bE 17 #[.slice none 0 0] 24 ?_;intro gb340 hg w218 hbox hb;have BK340 := Aside0.mk (hbox);have GW340 := gBe HB hg;have GE340 := gBe HB hg;have NB294_340 := nL BK294 hg;have NB340_294 := nG BK294 hg;have NB295_340 := nL BK295 hg;have NB340_295 := nG BK295 hg;have NB305_340 := nL BK305 hg;have NB340_305 := nG BK305 hg;have NB306_340 := nL BK306 hg;have NB340_306 := nG BK306 hg;have NB307_340 := nL BK307 hg;have NB340_307 := nG BK307 hg;have NB313_340 := nL BK313 hg;have NB340_313 := nG BK313 hg;have NB314_340 := nL BK314 hg;have NB340_314 := nG BK314 hg;have NB320_340 := nL BK320 hg;have NB340_320 := nG BK320 hg;have NB321_340 := nL BK321 hg;have NB340_321 := nG BK321 hg;have NB332_340 := nL BK332 hg;have NB340_332 := nG BK332 hg;have NB333_340 := nL BK333 hg;have NB340_333 := nG BK333 hg;have NB334_340 := nL BK334 hg;have NB340_334 := nG BK334 hg;replace HO_306000 := vE HO_306000 gb340 hg hb;replace HO_307000 := vE HO_307000 gb340 hg hb;replace HO_314000 := vE HO_314000 gb340 hg hb;replace HO_321000 := vE HO_321000 gb340 hg hb;replace HO325 := vE HO325 gb340 hg hb;replace HO328 := vE HO328 gb340 hg hb;replace HO337 := vE HO337 gb340 hg hb;replace BK294 := lJ BK294 hb;replace BK295 := lJ BK295 hb;replace BK305 := lJ BK305 hb;replace BK306 := lJ BK306 hb;replace BK307 := lJ BK307 hb;replace BK313 := lJ BK313 hb;replace BK314 := lJ BK314 hb;replace BK320 := lJ BK320 hb;replace BK321 := lJ BK321 hb;replace BK332 := lJ BK332 hb;replace BK333 := lJ BK333 hb;replace BK334 := lJ BK334 hb;replace HB := sBe HB hb;clear hb hbox hg)|((with_reducible refine gate_dst (N := 18) rfl ?_);refine bE 18 #[.int .i64 0, .int .i64 0] 27 ?_;intro gb341 hg w219 hbox hb;have BK341 := Aside0.mk (hbox);have GW341 := gBe HB hg;have GE341 := gBe HB hg;have NB294_341 := nL BK294 hg;have NB341_294 := nG BK294 hg;have NB295_341 := nL BK295 hg;have NB341_295 := nG BK295 hg;have NB305_341 := nL BK305 hg;have NB341_305 := nG BK305 hg;have NB306_341 := nL BK306 hg;have NB341_306 := nG BK306 hg;have NB307_341 := nL BK307 hg;have NB341_307 := nG BK307 hg;have NB313_341 := nL BK313 hg;have NB341_313 := nG BK313 hg;have NB314_341 := nL BK314 hg;have NB341_314 := nG BK314 hg;have NB320_341 := nL BK320 hg;have NB341_320 := nG BK320 hg;have NB321_341 := nL BK321 hg;have NB341_321 := nG BK321 hg;have NB332_341 := nL BK332 hg;have NB341_332 := nG BK332 hg;have NB333_341 := nL BK333 hg;have NB341_333 := nG BK333 hg;have NB334_341 := nL BK334 hg;have NB341_334 := nG BK334 hg;have NB340_341 := nL BK340 hg;have NB341_340 := nG BK340 hg;replace HO_306000 := vE HO_306000 gb341 hg hb;replace HO_307000 := vE HO_307000 gb341 hg hb;replace HO_314000 := vE HO_314000 gb341 hg hb;replace HO_321000 := vE HO_321000 gb341 hg hb;replace HO325 := vE HO325 gb341 hg hb;replace HO328 := vE HO328 gb341 hg hb;replace HO337 := vE HO337 gb341 hg hb;replace BK294 := lJ BK294 hb;replace BK295 := lJ BK295 hb;replace BK305 := lJ BK305 hb;replace BK306 := lJ BK306 hb;replace BK307 := lJ BK307 hb;replace BK313 := lJ BK313 hb;replace BK314 := lJ BK314 hb;replace BK320 := lJ BK320 hb;replace BK321 := lJ BK321 hb;replace BK332 := lJ BK332 hb;replace BK333 := lJ BK333 hb;replace BK334 := lJ BK334 hb;replace BK340 := lJ BK340 hb;replace HB := sBe HB hb;clear hb hbox hg;obtain ⟨Ao220, co220, eo220⟩ := Kd.V_slice HO337.out;subst eo220;have hnb221 := eq_false NB340_294.out;have hnc221 := eq_false NB294_340.out;have hnb222 := eq_false NB340_295.out;have hnc222 := eq_false NB295_340.out;have hnb223 := eq_false NB340_305.out;have hnc223 := eq_false NB305_340.out;have hnb224 := eq_false NB340_306.out;have hnc224 := eq_false NB306_340.out;have hnb225 := eq_false NB340_307.out;have hnc225 := eq_false NB307_340.out;have hnb226 := eq_false NB340_313.out;have hnc226 := eq_false NB313_340.out;have hnb227 := eq_false NB340_314.out;have hnc227 := eq_false NB314_340.out;have hnb228 := eq_false NB340_320.out;have hnc228 := eq_false NB320_340.out;have hnb229 := eq_false NB340_321.out;have hnc229 := eq_false NB321_340.out;have hnb230 := eq_false NB340_332.out;have hnc230 := eq_false NB332_340.out;have hnb231 := eq_false NB340_333.out;have hnc231 := eq_false NB333_340.out;have hnb232 := eq_false NB340_334.out;have hnc232 := eq_false NB334_340.out;have hnb233 := eq_false NB340_341.out;have hnc233 := eq_false NB341_340.out;have hcz234_0 := hC BK340 0 (.slice none 0 0);have hfz234_0 := blk_frozen BK340.out 0;have hnb235 := eq_false NB341_294.out;have hnc235 := eq_false NB294_341.out;have hnb236 := eq_false NB341_295.out;have hnc236 := eq_false NB295_341.out;have hnb237 := eq_false NB341_305.out;have hnc237 := eq_false NB305_341.out;have hnb238 := eq_false NB341_306.out;have hnc238 := eq_false NB306_341.out;have hnb239 := eq_false NB341_307.out;have hnc239 := eq_false NB307_341.out;have hnb240 := eq_false NB341_313.out;have hnc240 := eq_false NB313_341.out;have hnb241 := eq_false NB341_314.out;have hnc241 := eq_false NB314_341.out;have hnb242 := eq_false NB341_320.out;have hnc242 := eq_false NB320_341.out;have hnb243 := eq_false NB341_321.out;have hnc243 := eq_false NB321_341.out;have hnb244 := eq_false NB341_332.out;have hnc244 := eq_false NB332_341.out;have hnb245 := eq_false NB341_333.out;have hnc245 := eq_false NB333_341.out;have hnb246 := eq_false NB341_334.out;have hnc246 := eq_false NB334_341.out;have hcz247_0 := hC BK341 0 (.int .i64 0);have hcz247_1 := hC BK341 1 (.int .i64 0);have hfz247_0 := blk_frozen BK341.out 0;have hfz247_1 := blk_frozen BK341.out 1;have hnb248 := eq_false NB305_294.out;have hnc248 := eq_false NB294_305.out;have hnb249 := eq_false NB305_295.out;have hnc249 := eq_false NB295_305.out;have hnb250 := eq_false NB305_307.out;have hnc250 := eq_false NB307_305.out;have hnb251 := eq_false NB305_314.out;have hnc251 := eq_false NB314_305.out;have hnb252 := eq_false NB305_321.out;have hnc252 := eq_false NB321_305.out;have hcz253_0 := hC BK305 0 (.slice Ao16 t296.length co16);have hfz253_0 := blk_frozen BK305.out 0)|((with_reducible refine gate_callee (f := 17) rfl ?_);refine goesL_ (some 72) rfl rfl Try.func17 (by kernel_rfl) rfl #[.agg #[.slice Ao16 t296.length co16]] rfl mA ?_;(with_reducible refine (textpatch_Invert.calls kj5 _ _ t296 t342 t345 t346 _ ?side1 ?side2 A152.out).mono ?_);(case side1 => refine (Kd.V_reads' (e := 47) (base := w.heap.size) (ok := fun k_ => ((((((k_ ≠ gb294 ∧ (k_ ≠ gb295 ∧ (k_ ≠ gb305 ∧ (k_ ≠ gb306 ∧ (k_ ≠ gb307 ∧ (k_ ≠ gb313 ∧ (k_ ≠ gb314 ∧ (k_ ≠ gb320 ∧ k_ ≠ gb321)))))))) ∧ k_ ≠ gb332) ∧ k_ ≠ gb333) ∧ k_ ≠ gb334) ∧ k_ ≠ gb340) ∧ k_ ≠ gb341)) (n := t296.length) (c := co16) ?_).2.2;exact (by (with_reducible repeat (first|apply Kd.V_alloc|apply Kd.V_drewN|apply Kd.V_drew));exact (Kd.V_mono (Kd.V_mono (Kd.V_far (p := ⟨gb341, 1, none⟩) (Kd.V_far (p := ⟨gb341, 0, none⟩) (Kd.V_far (p := ⟨gb340, 0, none⟩) (Kd.V_mono (Kd.V_mono HO_306000.out (fun k_ hk => (⟨hk, hk.1.2⟩ : _ ∧ k_ ≠ gb340))) (fun k_ hk => (⟨hk, hk.1.2⟩ : _ ∧ k_ ≠ gb341))) (fun _ hk => hk.1.2) (.slice Ao220 t335.length co220)) (fun _ hk => hk.2) (.int .i64 t338)) (fun _ hk => hk.2) (.int .i64 t339)) (fun _ h_ => h_.1)) (fun _ h_ => h_.1))));(case side2 => exact (Kd.V_reads' HO_306000.out).2.1);rintro e w254 ⟨v343, rfl, ho0, hb⟩;refine ⟨_, rfl, ?_⟩;have HO344 := Aside0.mk (Kd.V_lower (Kd.V_mono (ok' := fun k_ => k_ ≠ gb294 ∧ k_ ≠ gb295 ∧ k_ ≠ gb305 ∧ k_ ≠ gb306 ∧ k_ ≠ gb307 ∧ k_ ≠ gb313 ∧ k_ ≠ gb314 ∧ k_ ≠ gb320 ∧ k_ ≠ gb321 ∧ k_ ≠ gb332 ∧ k_ ≠ gb333 ∧ k_ ≠ gb334 ∧ k_ ≠ gb340 ∧ k_ ≠ gb341) ho0 (fun k_ hk_ => ⟨(Kd.freshB (g := gb294) (o := .cells #[.slice A0_0 l0_0.length c0_0] 24 (0, 0)) kK k_ hk_), (Kd.freshB (g := gb295) (o := .cells #[.slice A1_0 l1_0.length c1_0] 24 (0, 0)) kK k_ hk_), (Kd.freshB (g := gb305) (o := .cells #[.slice Ao16 t296.length co16] 24 (0, 0)) kK k_ hk_), (Kd.freshB (g := gb306) (o := .cells #[.slice Ao22 t299.length co22] 24 (0, 0)) kK k_ hk_), (Kd.freshB (g := gb307) (o := .cells #[.int .i64 t303, .int .i64 t304] 27 (0, 0)) kK k_ hk_), (Kd.freshB (g := gb313) (o := .cells #[.slice Ao34 t308.length co34] 24 (0, 0)) kK k_ hk_), (Kd.freshB (g := gb314) (o := .cells #[.int .i64 t311, .int .i64 t312] 27 (0, 0)) kK k_ hk_), (Kd.freshB (g := gb320) (o := .cells #[.slice Ao52 t315.length co52] 24 (0, 0)) kK k_ hk_), (Kd.freshB (g := gb321) (o := .cells #[.int .i64 t318, .int .i64 t319] 27 (0, 0)) kK k_ hk_), (Kd.freshB (g := gb332) (o := .cells #[.slice Ao175 t323.length co175] 24 (0, 0)) kK k_ hk_), (Kd.freshB (g := gb333) (o := .cells #[.slice Ao188 t326.length co188] 24 (0, 0)) kK k_ hk_), (Kd.freshB (g := gb334) (o := .cells #[.int .i64 t330, .int .i64 t331] 27 (0, 0)) kK k_ hk_), (Kd.freshB (g := gb340) (o := .cells #[.slice Ao220 t335.length co220] 24 (0, 0)) kK k_ hk_), (Kd.freshB (g := gb341) (o := .cells #[.int .i64 t338, .int .i64 t339] 27 (0, 0)) kK k_ hk_)⟩)) (below_size eB));replace HO_306000 := Aside0.mk (Kd.V_below (by (with_reducible repeat (first|apply Kd.V_alloc|apply Kd.V_drewN|apply Kd.V_drew));exact (Kd.V_mono (Kd.V_mono (Kd.V_far (p := ⟨gb341, 1, none⟩) (Kd.V_far (p := ⟨gb341, 0, none⟩) (Kd.V_far (p := ⟨gb340, 0, none⟩) (Kd.V_mono (Kd.V_mono HO_306000.out (fun k_ hk => (⟨hk, hk.1.2⟩ : _ ∧ k_ ≠ gb340))) (fun k_ hk => (⟨hk, hk.1.2⟩ : _ ∧ k_ ≠ gb341))) (fun _ hk => hk.1.2) (.slice Ao220 t335.length co220)) (fun _ hk => hk.2) (.int .i64 t338)) (fun _ hk => hk.2) (.int .i64 t339)) (fun _ h_ => h_.1)) (fun _ h_ => h_.1))) hb);replace HO_307000 := Aside0.mk (Kd.V_below (by (with_reducible repeat (first|apply Kd.V_alloc|apply Kd.V_drewN|apply Kd.V_drew));exact (Kd.V_mono (Kd.V_mono (Kd.V_far (p := ⟨gb341, 1, none⟩) (Kd.V_far (p := ⟨gb341, 0, none⟩) (Kd.V_far (p := ⟨gb340, 0, none⟩) (Kd.V_mono (Kd.V_mono HO_307000.out (fun k_ hk => (⟨hk, hk.1.2⟩ : _ ∧ k_ ≠ gb340))) (fun k_ hk => (⟨hk, hk.1.2⟩ : _ ∧ k_ ≠ gb341))) (fun _ hk => hk.1.2) (.slice Ao220 t335.length co220)) (fun _ hk => hk.2) (.int .i64 t338)) (fun _ hk => hk.2) (.int .i64 t339)) (fun _ h_ => h_.1)) (fun _ h_ => h_.1))) hb);replace HO_314000 := Aside0.mk (Kd.V_below (by (with_reducible repeat (first|apply Kd.V_alloc|apply Kd.V_drewN|apply Kd.V_drew));exact (Kd.V_mono (Kd.V_mono (Kd.V_far (p := ⟨gb341, 1, none⟩) (Kd.V_far (p := ⟨gb341, 0, none⟩) (Kd.V_far (p := ⟨gb340, 0, none⟩) (Kd.V_mono (Kd.V_mono HO_314000.out (fun k_ hk => (⟨hk, hk.1.2⟩ : _ ∧ k_ ≠ gb340))) (fun k_ hk => (⟨hk, hk.1.2⟩ : _ ∧ k_ ≠ gb341))) (fun _ hk => hk.1.2) (.slice Ao220 t335.length co220)) (fun _ hk => hk.2) (.int .i64 t338)) (fun _ hk => hk.2) (.int .i64 t339)) (fun _ h_ => h_.1)) (fun _ h_ => h_.1))) hb);replace HO_321000 := Aside0.mk (Kd.V_below (by (with_reducible repeat (first|apply Kd.V_alloc|apply Kd.V_drewN|apply Kd.V_drew));exact (Kd.V_mono (Kd.V_mono (Kd.V_far (p := ⟨gb341, 1, none⟩) (Kd.V_far (p := ⟨gb341, 0, none⟩) (Kd.V_far (p := ⟨gb340, 0, none⟩) (Kd.V_mono (Kd.V_mono HO_321000.out (fun k_ hk => (⟨hk, hk.1.2⟩ : _ ∧ k_ ≠ gb340))) (fun k_ hk => (⟨hk, hk.1.2⟩ : _ ∧ k_ ≠ gb341))) (fun _ hk => hk.1.2) (.slice Ao220 t335.length co220)) (fun _ hk => hk.2) (.int .i64 t338)) (fun _ hk => hk.2) (.int .i64 t339)) (fun _ h_ => h_.1)) (fun _ h_ => h_.1))) hb);replace HO325 := Aside0.mk (Kd.V_below (by (with_reducible repeat (first|apply Kd.V_alloc|apply Kd.V_drewN|apply Kd.V_drew));exact (Kd.V_mono (Kd.V_mono (Kd.V_far (p := ⟨gb341, 1, none⟩) (Kd.V_far (p := ⟨gb341, 0, none⟩) (Kd.V_far (p := ⟨gb340, 0, none⟩) (Kd.V_mono (Kd.V_mono HO325.out (fun k_ hk => (⟨hk, hk.1.2⟩ : _ ∧ k_ ≠ gb340))) (fun k_ hk => (⟨hk, hk.1.2⟩ : _ ∧ k_ ≠ gb341))) (fun _ hk => hk.1.2) (.slice Ao220 t335.length co220)) (fun _ hk => hk.2) (.int .i64 t338)) (fun _ hk => hk.2) (.int .i64 t339)) (fun _ h_ => h_.1)) (fun _ h_ => h_.1))) hb);replace HO328 := Aside0.mk (Kd.V_below (by (with_reducible repeat (first|apply Kd.V_alloc|apply Kd.V_drewN|apply Kd.V_drew));exact (Kd.V_mono (Kd.V_mono (Kd.V_far (p := ⟨gb341, 1, none⟩) (Kd.V_far (p := ⟨gb341, 0, none⟩) (Kd.V_far (p := ⟨gb340, 0, none⟩) (Kd.V_mono (Kd.V_mono HO328.out (fun k_ hk => (⟨hk, hk.1.2⟩ : _ ∧ k_ ≠ gb340))) (fun k_ hk => (⟨hk, hk.1.2⟩ : _ ∧ k_ ≠ gb341))) (fun _ hk => hk.1.2) (.slice Ao220 t335.length co220)) (fun _ hk => hk.2) (.int .i64 t338)) (fun _ hk => hk.2) (.int .i64 t339)) (fun _ h_ => h_.1)) (fun _ h_ => h_.1))) hb);replace HO337 := Aside0.mk (Kd.V_below (by (with_reducible repeat (first|apply Kd.V_alloc|apply Kd.V_drewN|apply Kd.V_drew));exact (Kd.V_mono (Kd.V_mono (Kd.V_far (p := ⟨gb341, 1, none⟩) (Kd.V_far (p := ⟨gb341, 0, none⟩) (Kd.V_far (p := ⟨gb340, 0, none⟩) (Kd.V_mono (Kd.V_mono HO337.out (fun k_ hk => (⟨hk, hk.1.2⟩ : _ ∧ k_ ≠ gb340))) (fun k_ hk => (⟨hk, hk.1.2⟩ : _ ∧ k_ ≠ gb341))) (fun _ hk => hk.1.2) (.slice Ao220 t335.length co220)) (fun _ hk => hk.2) (.int .i64 t338)) (fun _ hk => hk.2) (.int .i64 t339)) (fun _ h_ => h_.1)) (fun _ h_ => h_.1))) hb);replace BK294 := lJ BK294 hb;replace BK295 := lJ BK295 hb;replace BK305 := lJ BK305 hb;replace BK306 := lJ BK306 hb;replace BK307 := lJ BK307 hb;replace BK313 := lJ BK313 hb;replace BK314 := lJ BK314 hb;replace BK320 := lJ BK320 hb;replace BK321 := lJ BK321 hb;replace BK332 := lJ BK332 hb;replace BK333 := lJ BK333 hb;replace BK334 := lJ BK334 hb;replace BK340 := lK gb340 24 #[.slice Ao220 t335.length co220] hb;replace BK341 := lK gb341 27 #[.int .i64 t338, .int .i64 t339] hb;replace HB := sBe HB hb;(try clear hb ho0))|((with_reducible refine gate_dst (N := 19) rfl ?_);refine bE 19 #[.slice none 0 0] 24 ?_;intro gb347 hg w255 hbox hb;have BK347 := Aside0.mk (hbox);have GW347 := gBe HB hg;have GE347 := gBe HB hg;have NB294_347 := nL BK294 hg;have NB347_294 := nG BK294 hg;have NB295_347 := nL BK295 hg;have NB347_295 := nG BK295 hg;have NB305_347 := nL BK305 hg;have NB347_305 := nG BK305 hg;have NB306_347 := nL BK306 hg;have NB347_306 := nG BK306 hg;have NB307_347 := nL BK307 hg;have NB347_307 := nG BK307 hg;have NB313_347 := nL BK313 hg;have NB347_313 := nG BK313 hg;have NB314_347 := nL BK314 hg;have NB347_314 := nG BK314 hg;have NB320_347 := nL BK320 hg;have NB347_320 := nG BK320 hg;have NB321_347 := nL BK321 hg;have NB347_321 := nG BK321 hg;have NB332_347 := nL BK332 hg;have NB347_332 := nG BK332 hg;have NB333_347 := nL BK333 hg;have NB347_333 := nG BK333 hg;have NB334_347 := nL BK334 hg;have NB347_334 := nG BK334 hg;have NB340_347 := nL BK340 hg;have NB347_340 := nG BK340 hg;have NB341_347 := nL BK341 hg;have NB347_341 := nG BK341 hg;replace HO_306000 := vE HO_306000 gb347 hg hb;replace HO_307000 := vE HO_307000 gb347 hg hb;replace HO_314000 := vE HO_314000 gb347 hg hb;replace HO_321000 := vE HO_321000 gb347 hg hb;replace HO325 := vE HO325 gb347 hg hb;replace HO328 := vE HO328 gb347 hg hb;replace HO337 := vE HO337 gb347 hg hb;replace HO344 := vE HO344 gb347 hg hb;replace BK294 := lJ BK294 hb;replace BK295 := lJ BK295 hb;replace BK305 := lJ BK305 hb;replace BK306 := lJ BK306 hb;replace BK307 := lJ BK307 hb;replace BK313 := lJ BK313 hb;replace BK314 := lJ BK314 hb;replace BK320 := lJ BK320 hb;replace BK321 := lJ BK321 hb;replace BK332 := lJ BK332 hb;replace BK333 := lJ BK333 hb;replace BK334 := lJ BK334 hb;replace BK340 := lJ BK340 hb;replace BK341 := lJ BK341 hb;replace HB := sBe HB hb;clear hb hbox hg)|((with_reducible refine gate_dst (N := 20) rfl ?_);refine bE 20 #[.int .i64 0, .int .i64 0] 27 ?_;intro gb348 hg w256 hbox hb;have BK348 := Aside0.mk (hbox);have GW348 := gBe HB hg;have GE348 := gBe HB hg;have NB294_348 := nL BK294 hg;have NB348_294 := nG BK294 hg;have NB295_348 := nL BK295 hg;have NB348_295 := nG BK295 hg;have NB305_348 := nL BK305 hg;have NB348_305 := nG BK305 hg;have NB306_348 := nL BK306 hg;have NB348_306 := nG BK306 hg;have NB307_348 := nL BK307 hg;have NB348_307 := nG BK307 hg;have NB313_348 := nL BK313 hg;have NB348_313 := nG BK313 hg;have NB314_348 := nL BK314 hg;have NB348_314 := nG BK314 hg;have NB320_348 := nL BK320 hg;have NB348_320 := nG BK320 hg;have NB321_348 := nL BK321 hg;have NB348_321 := nG BK321 hg;have NB332_348 := nL BK332 hg;have NB348_332 := nG BK332 hg;have NB333_348 := nL BK333 hg;have NB348_333 := nG BK333 hg;have NB334_348 := nL BK334 hg;have NB348_334 := nG BK334 hg;have NB340_348 := nL BK340 hg;have NB348_340 := nG BK340 hg;have NB341_348 := nL BK341 hg;have NB348_341 := nG BK341 hg;have NB347_348 := nL BK347 hg;have NB348_347 := nG BK347 hg;replace HO_306000 := vE HO_306000 gb348 hg hb;replace HO_307000 := vE HO_307000 gb348 hg hb;replace HO_314000 := vE HO_314000 gb348 hg hb;replace HO_321000 := vE HO_321000 gb348 hg hb;replace HO325 := vE HO325 gb348 hg hb;replace HO328 := vE HO328 gb348 hg hb;replace HO337 := vE HO337 gb348 hg hb;replace HO344 := vE HO344 gb348 hg hb;replace BK294 := lJ BK294 hb;replace BK295 := lJ BK295 hb;replace BK305 := lJ BK305 hb;replace BK306 := lJ BK306 hb;replace BK307 := lJ BK307 hb;replace BK313 := lJ BK313 hb;replace BK314 := lJ BK314 hb;replace BK320 := lJ BK320 hb;replace BK321 := lJ BK321 hb;replace BK332 := lJ BK332 hb;replace BK333 := lJ BK333 hb;replace BK334 := lJ BK334 hb;replace BK340 := lJ BK340 hb;replace BK341 := lJ BK341 hb;replace BK347 := lJ BK347 hb;replace HB := sBe HB hb;clear hb hbox hg;obtain ⟨Ao257, co257, eo257⟩ := Kd.V_slice HO344.out;subst eo257;have hnb258 := eq_false NB347_294.out;have hnc258 := eq_false NB294_347.out;have hnb259 := eq_false NB347_295.out;have hnc259 := eq_false NB295_347.out;have hnb260 := eq_false NB347_305.out;have hnc260 := eq_false NB305_347.out;have hnb261 := eq_false NB347_306.out;have hnc261 := eq_false NB306_347.out;have hnb262 := eq_false NB347_307.out;have hnc262 := eq_false NB307_347.out;have hnb263 := eq_false NB347_313.out;have hnc263 := eq_false NB313_347.out;have hnb264 := eq_false NB347_314.out;have hnc264 := eq_false NB314_347.out;have hnb265 := eq_false NB347_320.out;have hnc265 := eq_false NB320_347.out;have hnb266 := eq_false NB347_321.out;have hnc266 := eq_false NB321_347.out;have hnb267 := eq_false NB347_332.out;have hnc267 := eq_false NB332_347.out;have hnb268 := eq_false NB347_333.out;have hnc268 := eq_false NB333_347.out;have hnb269 := eq_false NB347_334.out;have hnc269 := eq_false NB334_347.out;have hnb270 := eq_false NB347_340.out;have hnc270 := eq_false NB340_347.out;have hnb271 := eq_false NB347_341.out;have hnc271 := eq_false NB341_347.out;have hnb272 := eq_false NB347_348.out;have hnc272 := eq_false NB348_347.out;have hcz273_0 := hC BK347 0 (.slice none 0 0);have hfz273_0 := blk_frozen BK347.out 0;have hnb274 := eq_false NB348_294.out;have hnc274 := eq_false NB294_348.out;have hnb275 := eq_false NB348_295.out;have hnc275 := eq_false NB295_348.out;have hnb276 := eq_false NB348_305.out;have hnc276 := eq_false NB305_348.out;have hnb277 := eq_false NB348_306.out;have hnc277 := eq_false NB306_348.out;have hnb278 := eq_false NB348_307.out;have hnc278 := eq_false NB307_348.out;have hnb279 := eq_false NB348_313.out;have hnc279 := eq_false NB313_348.out;have hnb280 := eq_false NB348_314.out;have hnc280 := eq_false NB314_348.out;have hnb281 := eq_false NB348_320.out;have hnc281 := eq_false NB320_348.out;have hnb282 := eq_false NB348_321.out;have hnc282 := eq_false NB321_348.out;have hnb283 := eq_false NB348_332.out;have hnc283 := eq_false NB332_348.out;have hnb284 := eq_false NB348_333.out;have hnc284 := eq_false NB333_348.out;have hnb285 := eq_false NB348_334.out;have hnc285 := eq_false NB334_348.out;have hnb286 := eq_false NB348_340.out;have hnc286 := eq_false NB340_348.out;have hnb287 := eq_false NB348_341.out;have hnc287 := eq_false NB341_348.out;have hcz288_0 := hC BK348 0 (.int .i64 0);have hcz288_1 := hC BK348 1 (.int .i64 0);have hfz288_0 := blk_frozen BK348.out 0;have hfz288_1 := blk_frozen BK348.out 1))
        (try simp only [Act.put, sA, sB, sC])
        go_cut [87] (fun v87 wc => ∃ (kq : Nat) (x87_152 : Bool), v87 = .bool x87_152 ∧ Aside0 (changeforgelaw1_CommuteInverse.j1 kq t329 x87_152 t323 t326 t335 t342 = some r) ∧ Aside0 (kq ≤ kj5) ∧ Aside0 (Kd.V k47 47 wc w.heap.size (fun k_ => k_ ≠ gb294 ∧ k_ ≠ gb295 ∧ k_ ≠ gb305 ∧ k_ ≠ gb306 ∧ k_ ≠ gb307 ∧ k_ ≠ gb313 ∧ k_ ≠ gb314 ∧ k_ ≠ gb320 ∧ k_ ≠ gb321 ∧ k_ ≠ gb332 ∧ k_ ≠ gb333 ∧ k_ ≠ gb334 ∧ k_ ≠ gb340 ∧ k_ ≠ gb341 ∧ k_ ≠ gb347 ∧ k_ ≠ gb348) (.slice Ao16 t296.length co16) t296) ∧ Aside0 (Kd.V k47 47 wc w.heap.size (fun k_ => k_ ≠ gb294 ∧ k_ ≠ gb295 ∧ k_ ≠ gb305 ∧ k_ ≠ gb306 ∧ k_ ≠ gb307 ∧ k_ ≠ gb313 ∧ k_ ≠ gb314 ∧ k_ ≠ gb320 ∧ k_ ≠ gb321 ∧ k_ ≠ gb332 ∧ k_ ≠ gb333 ∧ k_ ≠ gb334 ∧ k_ ≠ gb340 ∧ k_ ≠ gb341 ∧ k_ ≠ gb347 ∧ k_ ≠ gb348) (.slice Ao22 t299.length co22) t299) ∧ Aside0 (Kd.V k47 47 wc w.heap.size (fun k_ => k_ ≠ gb294 ∧ k_ ≠ gb295 ∧ k_ ≠ gb305 ∧ k_ ≠ gb306 ∧ k_ ≠ gb307 ∧ k_ ≠ gb313 ∧ k_ ≠ gb314 ∧ k_ ≠ gb320 ∧ k_ ≠ gb321 ∧ k_ ≠ gb332 ∧ k_ ≠ gb333 ∧ k_ ≠ gb334 ∧ k_ ≠ gb340 ∧ k_ ≠ gb341 ∧ k_ ≠ gb347 ∧ k_ ≠ gb348) (.slice Ao34 t308.length co34) t308) ∧ Aside0 (Kd.V k47 47 wc w.heap.size (fun k_ => k_ ≠ gb294 ∧ k_ ≠ gb295 ∧ k_ ≠ gb305 ∧ k_ ≠ gb306 ∧ k_ ≠ gb307 ∧ k_ ≠ gb313 ∧ k_ ≠ gb314 ∧ k_ ≠ gb320 ∧ k_ ≠ gb321 ∧ k_ ≠ gb332 ∧ k_ ≠ gb333 ∧ k_ ≠ gb334 ∧ k_ ≠ gb340 ∧ k_ ≠ gb341 ∧ k_ ≠ gb347 ∧ k_ ≠ gb348) (.slice Ao52 t315.length co52) t315) ∧ Aside0 (Kd.V k47 47 wc w.heap.size (fun k_ => k_ ≠ gb294 ∧ k_ ≠ gb295 ∧ k_ ≠ gb305 ∧ k_ ≠ gb306 ∧ k_ ≠ gb307 ∧ k_ ≠ gb313 ∧ k_ ≠ gb314 ∧ k_ ≠ gb320 ∧ k_ ≠ gb321 ∧ k_ ≠ gb332 ∧ k_ ≠ gb333 ∧ k_ ≠ gb334 ∧ k_ ≠ gb340 ∧ k_ ≠ gb341 ∧ k_ ≠ gb347 ∧ k_ ≠ gb348) (.slice Ao175 t323.length co175) t323) ∧ Aside0 (Kd.V k47 47 wc w.heap.size (fun k_ => k_ ≠ gb294 ∧ k_ ≠ gb295 ∧ k_ ≠ gb305 ∧ k_ ≠ gb306 ∧ k_ ≠ gb307 ∧ k_ ≠ gb313 ∧ k_ ≠ gb314 ∧ k_ ≠ gb320 ∧ k_ ≠ gb321 ∧ k_ ≠ gb332 ∧ k_ ≠ gb333 ∧ k_ ≠ gb334 ∧ k_ ≠ gb340 ∧ k_ ≠ gb341 ∧ k_ ≠ gb347 ∧ k_ ≠ gb348) (.slice Ao188 t326.length co188) t326) ∧ Aside0 (Kd.V k47 47 wc w.heap.size (fun k_ => k_ ≠ gb294 ∧ k_ ≠ gb295 ∧ k_ ≠ gb305 ∧ k_ ≠ gb306 ∧ k_ ≠ gb307 ∧ k_ ≠ gb313 ∧ k_ ≠ gb314 ∧ k_ ≠ gb320 ∧ k_ ≠ gb321 ∧ k_ ≠ gb332 ∧ k_ ≠ gb333 ∧ k_ ≠ gb334 ∧ k_ ≠ gb340 ∧ k_ ≠ gb341 ∧ k_ ≠ gb347 ∧ k_ ≠ gb348) (.slice Ao220 t335.length co220) t335) ∧ Aside0 (Kd.V k47 47 wc w.heap.size (fun k_ => k_ ≠ gb294 ∧ k_ ≠ gb295 ∧ k_ ≠ gb305 ∧ k_ ≠ gb306 ∧ k_ ≠ gb307 ∧ k_ ≠ gb313 ∧ k_ ≠ gb314 ∧ k_ ≠ gb320 ∧ k_ ≠ gb321 ∧ k_ ≠ gb332 ∧ k_ ≠ gb333 ∧ k_ ≠ gb334 ∧ k_ ≠ gb340 ∧ k_ ≠ gb341 ∧ k_ ≠ gb347 ∧ k_ ≠ gb348) (.slice Ao257 t342.length co257) t342) ∧ Aside0 (wc.heap[gb294]? = some (.cells #[(.slice A0_0 l0_0.length c0_0)] 24 (0, 0))) ∧ Aside0 (wc.heap[gb295]? = some (.cells #[(.slice A1_0 l1_0.length c1_0)] 24 (0, 0))) ∧ Aside0 (wc.heap[gb305]? = some (.cells #[(.slice Ao16 t296.length co16)] 24 (0, 0))) ∧ Aside0 (wc.heap[gb306]? = some (.cells #[(.slice Ao22 t299.length co22)] 24 (0, 0))) ∧ Aside0 (wc.heap[gb307]? = some (.cells #[.int .i64 t303, .int .i64 t304] 27 (0, 0))) ∧ Aside0 (wc.heap[gb313]? = some (.cells #[(.slice Ao34 t308.length co34)] 24 (0, 0))) ∧ Aside0 (wc.heap[gb314]? = some (.cells #[.int .i64 t311, .int .i64 t312] 27 (0, 0))) ∧ Aside0 (wc.heap[gb320]? = some (.cells #[(.slice Ao52 t315.length co52)] 24 (0, 0))) ∧ Aside0 (wc.heap[gb321]? = some (.cells #[.int .i64 t318, .int .i64 t319] 27 (0, 0))) ∧ Aside0 (wc.heap[gb332]? = some (.cells #[(.slice Ao175 t323.length co175)] 24 (0, 0))) ∧ Aside0 (wc.heap[gb333]? = some (.cells #[(.slice Ao188 t326.length co188)] 24 (0, 0))) ∧ Aside0 (wc.heap[gb334]? = some (.cells #[.int .i64 t330, .int .i64 t331] 27 (0, 0))) ∧ Aside0 (wc.heap[gb340]? = some (.cells #[(.slice Ao220 t335.length co220)] 24 (0, 0))) ∧ Aside0 (wc.heap[gb341]? = some (.cells #[.int .i64 t338, .int .i64 t339] 27 (0, 0))) ∧ Aside0 (wc.heap[gb347]? = some (.cells #[(.slice Ao257 t342.length co257)] 24 (0, 0))) ∧ Aside0 (wc.heap[gb348]? = some (.cells #[.int .i64 t345, .int .i64 t346] 27 (0, 0))) ∧ Aside0 (Below w.heap.size w wc))
        case first =>
          have H := HC153.out;clear HC153
          by_cases c289 : t330 = 0
          · rw [if_pos c289] at H;have c289b0 : (t330 == 0) = true := beq_iff_eq.mpr c289;have c289b1 : (t330 != 0) = false := bne_eq_false_iff_eq.mpr c289;clear c289
            (first|rw [c289b0]|(simp only [i64_w, i32_w];rw [c289b0])|skip)
            have hnb291 := eq_false NB334_294.out;have hnc291 := eq_false NB294_334.out;have hnb292 := eq_false NB334_295.out;have hnc292 := eq_false NB295_334.out;have hnb293 := eq_false NB334_305.out;have hnc293 := eq_false NB305_334.out;have hnb294 := eq_false NB334_306.out;have hnc294 := eq_false NB306_334.out;have hnb295 := eq_false NB334_307.out;have hnc295 := eq_false NB307_334.out;have hnb296 := eq_false NB334_313.out;have hnc296 := eq_false NB313_334.out;have hnb297 := eq_false NB334_314.out;have hnc297 := eq_false NB314_334.out;have hnb298 := eq_false NB334_320.out;have hnc298 := eq_false NB320_334.out;have hnb299 := eq_false NB334_321.out;have hnc299 := eq_false NB321_334.out;have hnb300 := eq_false NB334_332.out;have hnc300 := eq_false NB332_334.out;have hnb301 := eq_false NB334_333.out;have hnc301 := eq_false NB333_334.out;have hnb302 := eq_false NB334_340.out;have hnc302 := eq_false NB340_334.out;have hnb303 := eq_false NB334_341.out;have hnc303 := eq_false NB341_334.out;have hnb304 := eq_false NB334_347.out;have hnc304 := eq_false NB347_334.out;have hnb305 := eq_false NB334_348.out;have hnc305 := eq_false NB348_334.out;have hcz306_0 := hC BK334 0 (.int .i64 t330);have hcz306_1 := hC BK334 1 (.int .i64 t331);have hfz306_0 := blk_frozen BK334.out 0;have hfz306_1 := blk_frozen BK334.out 1;have hnb307 := eq_false NB341_294.out;have hnc307 := eq_false NB294_341.out;have hnb308 := eq_false NB341_295.out;have hnc308 := eq_false NB295_341.out;have hnb309 := eq_false NB341_305.out;have hnc309 := eq_false NB305_341.out;have hnb310 := eq_false NB341_306.out;have hnc310 := eq_false NB306_341.out;have hnb311 := eq_false NB341_307.out;have hnc311 := eq_false NB307_341.out;have hnb312 := eq_false NB341_313.out;have hnc312 := eq_false NB313_341.out;have hnb313 := eq_false NB341_314.out;have hnc313 := eq_false NB314_341.out;have hnb314 := eq_false NB341_320.out;have hnc314 := eq_false NB320_341.out;have hnb315 := eq_false NB341_321.out;have hnc315 := eq_false NB321_341.out;have hnb316 := eq_false NB341_332.out;have hnc316 := eq_false NB332_341.out;have hnb317 := eq_false NB341_333.out;have hnc317 := eq_false NB333_341.out;have hnb318 := eq_false NB341_340.out;have hnc318 := eq_false NB340_341.out;have hnb319 := eq_false NB341_347.out;have hnc319 := eq_false NB347_341.out;have hnb320 := eq_false NB341_348.out;have hnc320 := eq_false NB348_341.out;have hcz321_0 := hC BK341 0 (.int .i64 t338);have hcz321_1 := hC BK341 1 (.int .i64 t339);have hfz321_0 := blk_frozen BK341.out 0;have hfz321_1 := blk_frozen BK341.out 1
            by_cases c290 : t338 = 0
            · rw [if_pos c290] at H;have c290b0 : (t338 == 0) = true := beq_iff_eq.mpr c290;have c290b1 : (t338 != 0) = false := bne_eq_false_iff_eq.mpr c290;clear c290;have H' := Aside0.mk H;clear H;have hnb322 := eq_false NB348_294.out;have hnc322 := eq_false NB294_348.out;have hnb323 := eq_false NB348_295.out;have hnc323 := eq_false NB295_348.out;have hnb324 := eq_false NB348_305.out;have hnc324 := eq_false NB305_348.out;have hnb325 := eq_false NB348_306.out;have hnc325 := eq_false NB306_348.out;have hnb326 := eq_false NB348_307.out;have hnc326 := eq_false NB307_348.out;have hnb327 := eq_false NB348_313.out;have hnc327 := eq_false NB313_348.out;have hnb328 := eq_false NB348_314.out;have hnc328 := eq_false NB314_348.out;have hnb329 := eq_false NB348_320.out;have hnc329 := eq_false NB320_348.out;have hnb330 := eq_false NB348_321.out;have hnc330 := eq_false NB321_348.out;have hnb331 := eq_false NB348_332.out;have hnc331 := eq_false NB332_348.out;have hnb332 := eq_false NB348_333.out;have hnc332 := eq_false NB333_348.out;have hnb333 := eq_false NB348_340.out;have hnc333 := eq_false NB340_348.out;have hnb334 := eq_false NB348_347.out;have hnc334 := eq_false NB347_348.out;have hcz335_0 := hC BK348 0 (.int .i64 0);have hcz335_1 := hC BK348 1 (.int .i64 0);have hfz335_0 := blk_frozen BK348.out 0;have hfz335_1 := blk_frozen BK348.out 1
              go_wp2
              go_meet
              case rel => exact ⟨_, ((t345 != 0)), (by first|rfl|(simp only [i64_w, i32_w];done)|(simp only [i64_w, i32_w];rfl)|(simp;done)|(simp [*];done)), H', ⟨by have := HJ5.out;first|omega|exact Nat.le_refl _⟩, ⟨by (with_reducible repeat (first|apply Kd.V_alloc|apply Kd.V_drewN|apply Kd.V_drew));exact Kd.V_mono (Kd.V_far (p := ⟨gb348, 1, none⟩) (Kd.V_far (p := ⟨gb348, 0, none⟩) (Kd.V_far (p := ⟨gb347, 0, none⟩) (Kd.V_mono (Kd.V_mono HO_306000.out (fun k_ hk => (⟨hk, hk.1.2⟩ : _ ∧ k_ ≠ gb347))) (fun k_ hk => (⟨hk, hk.1.2⟩ : _ ∧ k_ ≠ gb348))) (fun _ hk => hk.1.2) (.slice Ao257 t342.length co257)) (fun _ hk => hk.2) (.int .i64 t345)) (fun _ hk => hk.2) (.int .i64 t346)) (fun _ hk => ⟨hk.1.1.1.1.1.1.1.1.1.1, ⟨hk.1.1.1.1.1.1.1.1.1.2.1, ⟨hk.1.1.1.1.1.1.1.1.1.2.2.1, ⟨hk.1.1.1.1.1.1.1.1.1.2.2.2.1, ⟨hk.1.1.1.1.1.1.1.1.1.2.2.2.2.1, ⟨hk.1.1.1.1.1.1.1.1.1.2.2.2.2.2.1, ⟨hk.1.1.1.1.1.1.1.1.1.2.2.2.2.2.2.1, ⟨hk.1.1.1.1.1.1.1.1.1.2.2.2.2.2.2.2.1, ⟨hk.1.1.1.1.1.1.1.1.1.2.2.2.2.2.2.2.2, ⟨hk.1.1.1.1.1.1.1.1.2, ⟨hk.1.1.1.1.1.1.1.2, ⟨hk.1.1.1.1.1.1.2, ⟨hk.1.1.1.1.1.2, ⟨hk.1.1.1.1.2, ⟨hk.1.1.1.2, hk.1.1.2⟩⟩⟩⟩⟩⟩⟩⟩⟩⟩⟩⟩⟩⟩⟩)⟩, ⟨by (with_reducible repeat (first|apply Kd.V_alloc|apply Kd.V_drewN|apply Kd.V_drew));exact Kd.V_mono (Kd.V_far (p := ⟨gb348, 1, none⟩) (Kd.V_far (p := ⟨gb348, 0, none⟩) (Kd.V_far (p := ⟨gb347, 0, none⟩) (Kd.V_mono (Kd.V_mono HO_307000.out (fun k_ hk => (⟨hk, hk.1.2⟩ : _ ∧ k_ ≠ gb347))) (fun k_ hk => (⟨hk, hk.1.2⟩ : _ ∧ k_ ≠ gb348))) (fun _ hk => hk.1.2) (.slice Ao257 t342.length co257)) (fun _ hk => hk.2) (.int .i64 t345)) (fun _ hk => hk.2) (.int .i64 t346)) (fun _ hk => ⟨hk.1.1.1.1.1.1.1.1.1.1, ⟨hk.1.1.1.1.1.1.1.1.1.2.1, ⟨hk.1.1.1.1.1.1.1.1.1.2.2.1, ⟨hk.1.1.1.1.1.1.1.1.1.2.2.2.1, ⟨hk.1.1.1.1.1.1.1.1.1.2.2.2.2.1, ⟨hk.1.1.1.1.1.1.1.1.1.2.2.2.2.2.1, ⟨hk.1.1.1.1.1.1.1.1.1.2.2.2.2.2.2.1, ⟨hk.1.1.1.1.1.1.1.1.1.2.2.2.2.2.2.2.1, ⟨hk.1.1.1.1.1.1.1.1.1.2.2.2.2.2.2.2.2, ⟨hk.1.1.1.1.1.1.1.1.2, ⟨hk.1.1.1.1.1.1.1.2, ⟨hk.1.1.1.1.1.1.2, ⟨hk.1.1.1.1.1.2, ⟨hk.1.1.1.1.2, ⟨hk.1.1.1.2, hk.1.1.2⟩⟩⟩⟩⟩⟩⟩⟩⟩⟩⟩⟩⟩⟩⟩)⟩, ⟨by (with_reducible repeat (first|apply Kd.V_alloc|apply Kd.V_drewN|apply Kd.V_drew));exact Kd.V_mono (Kd.V_far (p := ⟨gb348, 1, none⟩) (Kd.V_far (p := ⟨gb348, 0, none⟩) (Kd.V_far (p := ⟨gb347, 0, none⟩) (Kd.V_mono (Kd.V_mono HO_314000.out (fun k_ hk => (⟨hk, hk.1.2⟩ : _ ∧ k_ ≠ gb347))) (fun k_ hk => (⟨hk, hk.1.2⟩ : _ ∧ k_ ≠ gb348))) (fun _ hk => hk.1.2) (.slice Ao257 t342.length co257)) (fun _ hk => hk.2) (.int .i64 t345)) (fun _ hk => hk.2) (.int .i64 t346)) (fun _ hk => ⟨hk.1.1.1.1.1.1.1.1.1.1, ⟨hk.1.1.1.1.1.1.1.1.1.2.1, ⟨hk.1.1.1.1.1.1.1.1.1.2.2.1, ⟨hk.1.1.1.1.1.1.1.1.1.2.2.2.1, ⟨hk.1.1.1.1.1.1.1.1.1.2.2.2.2.1, ⟨hk.1.1.1.1.1.1.1.1.1.2.2.2.2.2.1, ⟨hk.1.1.1.1.1.1.1.1.1.2.2.2.2.2.2.1, ⟨hk.1.1.1.1.1.1.1.1.1.2.2.2.2.2.2.2.1, ⟨hk.1.1.1.1.1.1.1.1.1.2.2.2.2.2.2.2.2, ⟨hk.1.1.1.1.1.1.1.1.2, ⟨hk.1.1.1.1.1.1.1.2, ⟨hk.1.1.1.1.1.1.2, ⟨hk.1.1.1.1.1.2, ⟨hk.1.1.1.1.2, ⟨hk.1.1.1.2, hk.1.1.2⟩⟩⟩⟩⟩⟩⟩⟩⟩⟩⟩⟩⟩⟩⟩)⟩, ⟨by (with_reducible repeat (first|apply Kd.V_alloc|apply Kd.V_drewN|apply Kd.V_drew));exact Kd.V_mono (Kd.V_far (p := ⟨gb348, 1, none⟩) (Kd.V_far (p := ⟨gb348, 0, none⟩) (Kd.V_far (p := ⟨gb347, 0, none⟩) (Kd.V_mono (Kd.V_mono HO_321000.out (fun k_ hk => (⟨hk, hk.1.2⟩ : _ ∧ k_ ≠ gb347))) (fun k_ hk => (⟨hk, hk.1.2⟩ : _ ∧ k_ ≠ gb348))) (fun _ hk => hk.1.2) (.slice Ao257 t342.length co257)) (fun _ hk => hk.2) (.int .i64 t345)) (fun _ hk => hk.2) (.int .i64 t346)) (fun _ hk => ⟨hk.1.1.1.1.1.1.1.1.1.1, ⟨hk.1.1.1.1.1.1.1.1.1.2.1, ⟨hk.1.1.1.1.1.1.1.1.1.2.2.1, ⟨hk.1.1.1.1.1.1.1.1.1.2.2.2.1, ⟨hk.1.1.1.1.1.1.1.1.1.2.2.2.2.1, ⟨hk.1.1.1.1.1.1.1.1.1.2.2.2.2.2.1, ⟨hk.1.1.1.1.1.1.1.1.1.2.2.2.2.2.2.1, ⟨hk.1.1.1.1.1.1.1.1.1.2.2.2.2.2.2.2.1, ⟨hk.1.1.1.1.1.1.1.1.1.2.2.2.2.2.2.2.2, ⟨hk.1.1.1.1.1.1.1.1.2, ⟨hk.1.1.1.1.1.1.1.2, ⟨hk.1.1.1.1.1.1.2, ⟨hk.1.1.1.1.1.2, ⟨hk.1.1.1.1.2, ⟨hk.1.1.1.2, hk.1.1.2⟩⟩⟩⟩⟩⟩⟩⟩⟩⟩⟩⟩⟩⟩⟩)⟩, ⟨by (with_reducible repeat (first|apply Kd.V_alloc|apply Kd.V_drewN|apply Kd.V_drew));exact Kd.V_mono (Kd.V_far (p := ⟨gb348, 1, none⟩) (Kd.V_far (p := ⟨gb348, 0, none⟩) (Kd.V_far (p := ⟨gb347, 0, none⟩) (Kd.V_mono (Kd.V_mono HO325.out (fun k_ hk => (⟨hk, hk.1.2⟩ : _ ∧ k_ ≠ gb347))) (fun k_ hk => (⟨hk, hk.1.2⟩ : _ ∧ k_ ≠ gb348))) (fun _ hk => hk.1.2) (.slice Ao257 t342.length co257)) (fun _ hk => hk.2) (.int .i64 t345)) (fun _ hk => hk.2) (.int .i64 t346)) (fun _ hk => ⟨hk.1.1.1.1.1.1.1.1.1.1, ⟨hk.1.1.1.1.1.1.1.1.1.2.1, ⟨hk.1.1.1.1.1.1.1.1.1.2.2.1, ⟨hk.1.1.1.1.1.1.1.1.1.2.2.2.1, ⟨hk.1.1.1.1.1.1.1.1.1.2.2.2.2.1, ⟨hk.1.1.1.1.1.1.1.1.1.2.2.2.2.2.1, ⟨hk.1.1.1.1.1.1.1.1.1.2.2.2.2.2.2.1, ⟨hk.1.1.1.1.1.1.1.1.1.2.2.2.2.2.2.2.1, ⟨hk.1.1.1.1.1.1.1.1.1.2.2.2.2.2.2.2.2, ⟨hk.1.1.1.1.1.1.1.1.2, ⟨hk.1.1.1.1.1.1.1.2, ⟨hk.1.1.1.1.1.1.2, ⟨hk.1.1.1.1.1.2, ⟨hk.1.1.1.1.2, ⟨hk.1.1.1.2, hk.1.1.2⟩⟩⟩⟩⟩⟩⟩⟩⟩⟩⟩⟩⟩⟩⟩)⟩, ⟨by (with_reducible repeat (first|apply Kd.V_alloc|apply Kd.V_drewN|apply Kd.V_drew));exact Kd.V_mono (Kd.V_far (p := ⟨gb348, 1, none⟩) (Kd.V_far (p := ⟨gb348, 0, none⟩) (Kd.V_far (p := ⟨gb347, 0, none⟩) (Kd.V_mono (Kd.V_mono HO328.out (fun k_ hk => (⟨hk, hk.1.2⟩ : _ ∧ k_ ≠ gb347))) (fun k_ hk => (⟨hk, hk.1.2⟩ : _ ∧ k_ ≠ gb348))) (fun _ hk => hk.1.2) (.slice Ao257 t342.length co257)) (fun _ hk => hk.2) (.int .i64 t345)) (fun _ hk => hk.2) (.int .i64 t346)) (fun _ hk => ⟨hk.1.1.1.1.1.1.1.1.1.1, ⟨hk.1.1.1.1.1.1.1.1.1.2.1, ⟨hk.1.1.1.1.1.1.1.1.1.2.2.1, ⟨hk.1.1.1.1.1.1.1.1.1.2.2.2.1, ⟨hk.1.1.1.1.1.1.1.1.1.2.2.2.2.1, ⟨hk.1.1.1.1.1.1.1.1.1.2.2.2.2.2.1, ⟨hk.1.1.1.1.1.1.1.1.1.2.2.2.2.2.2.1, ⟨hk.1.1.1.1.1.1.1.1.1.2.2.2.2.2.2.2.1, ⟨hk.1.1.1.1.1.1.1.1.1.2.2.2.2.2.2.2.2, ⟨hk.1.1.1.1.1.1.1.1.2, ⟨hk.1.1.1.1.1.1.1.2, ⟨hk.1.1.1.1.1.1.2, ⟨hk.1.1.1.1.1.2, ⟨hk.1.1.1.1.2, ⟨hk.1.1.1.2, hk.1.1.2⟩⟩⟩⟩⟩⟩⟩⟩⟩⟩⟩⟩⟩⟩⟩)⟩, ⟨by (with_reducible repeat (first|apply Kd.V_alloc|apply Kd.V_drewN|apply Kd.V_drew));exact Kd.V_mono (Kd.V_far (p := ⟨gb348, 1, none⟩) (Kd.V_far (p := ⟨gb348, 0, none⟩) (Kd.V_far (p := ⟨gb347, 0, none⟩) (Kd.V_mono (Kd.V_mono HO337.out (fun k_ hk => (⟨hk, hk.1.2⟩ : _ ∧ k_ ≠ gb347))) (fun k_ hk => (⟨hk, hk.1.2⟩ : _ ∧ k_ ≠ gb348))) (fun _ hk => hk.1.2) (.slice Ao257 t342.length co257)) (fun _ hk => hk.2) (.int .i64 t345)) (fun _ hk => hk.2) (.int .i64 t346)) (fun _ hk => ⟨hk.1.1.1.1.1.1.1, ⟨hk.1.1.1.1.1.1.2.1, ⟨hk.1.1.1.1.1.1.2.2.1, ⟨hk.1.1.1.1.1.1.2.2.2.1, ⟨hk.1.1.1.1.1.1.2.2.2.2.1, ⟨hk.1.1.1.1.1.1.2.2.2.2.2.1, ⟨hk.1.1.1.1.1.1.2.2.2.2.2.2.1, ⟨hk.1.1.1.1.1.1.2.2.2.2.2.2.2.1, ⟨hk.1.1.1.1.1.1.2.2.2.2.2.2.2.2.1, ⟨hk.1.1.1.1.1.1.2.2.2.2.2.2.2.2.2.1, ⟨hk.1.1.1.1.1.1.2.2.2.2.2.2.2.2.2.2.1, ⟨hk.1.1.1.1.1.1.2.2.2.2.2.2.2.2.2.2.2, ⟨hk.1.1.1.1.1.2, ⟨hk.1.1.1.1.2, ⟨hk.1.1.1.2, hk.1.1.2⟩⟩⟩⟩⟩⟩⟩⟩⟩⟩⟩⟩⟩⟩⟩)⟩, ⟨by (with_reducible repeat (first|apply Kd.V_alloc|apply Kd.V_drewN|apply Kd.V_drew));exact Kd.V_mono (Kd.V_far (p := ⟨gb348, 1, none⟩) (Kd.V_far (p := ⟨gb348, 0, none⟩) (Kd.V_far (p := ⟨gb347, 0, none⟩) (Kd.V_mono (Kd.V_mono HO344.out (fun k_ hk => (⟨hk, hk.1.2⟩ : _ ∧ k_ ≠ gb347))) (fun k_ hk => (⟨hk, hk.1.2⟩ : _ ∧ k_ ≠ gb348))) (fun _ hk => hk.1.2) (.slice Ao257 t342.length co257)) (fun _ hk => hk.2) (.int .i64 t345)) (fun _ hk => hk.2) (.int .i64 t346)) (fun _ hk => ⟨hk.1.1.1.1.1, ⟨hk.1.1.1.1.2.1, ⟨hk.1.1.1.1.2.2.1, ⟨hk.1.1.1.1.2.2.2.1, ⟨hk.1.1.1.1.2.2.2.2.1, ⟨hk.1.1.1.1.2.2.2.2.2.1, ⟨hk.1.1.1.1.2.2.2.2.2.2.1, ⟨hk.1.1.1.1.2.2.2.2.2.2.2.1, ⟨hk.1.1.1.1.2.2.2.2.2.2.2.2.1, ⟨hk.1.1.1.1.2.2.2.2.2.2.2.2.2.1, ⟨hk.1.1.1.1.2.2.2.2.2.2.2.2.2.2.1, ⟨hk.1.1.1.1.2.2.2.2.2.2.2.2.2.2.2.1, ⟨hk.1.1.1.1.2.2.2.2.2.2.2.2.2.2.2.2.1, ⟨hk.1.1.1.1.2.2.2.2.2.2.2.2.2.2.2.2.2, ⟨hk.1.1.1.2, hk.1.1.2⟩⟩⟩⟩⟩⟩⟩⟩⟩⟩⟩⟩⟩⟩⟩)⟩, ⟨kK⟩, ⟨kK⟩, ⟨kK⟩, ⟨kK⟩, ⟨kK⟩, ⟨kK⟩, ⟨kK⟩, ⟨kK⟩, ⟨kK⟩, ⟨kK⟩, ⟨kK⟩, ⟨kK⟩, ⟨kK⟩, ⟨kK⟩, ⟨kK⟩, ⟨kK⟩, ⟨eB⟩⟩
            · rw [if_neg c290] at H;have c290b0 : (t338 == 0) = false := beq_eq_false_iff_ne.mpr c290;have c290b1 : (t338 != 0) = true := bne_iff_ne.mpr c290;have H' := Aside0.mk H;clear H
              go_wp2
              go_meet
              case rel => exact ⟨_, (true), (by first|rfl|(simp only [i64_w, i32_w];done)|(simp only [i64_w, i32_w];rfl)|(simp;done)|(simp [*];done)), H', ⟨by have := HJ5.out;first|omega|exact Nat.le_refl _⟩, ⟨by (with_reducible repeat (first|apply Kd.V_alloc|apply Kd.V_drewN|apply Kd.V_drew));exact Kd.V_mono (Kd.V_far (p := ⟨gb348, 1, none⟩) (Kd.V_far (p := ⟨gb348, 0, none⟩) (Kd.V_far (p := ⟨gb347, 0, none⟩) (Kd.V_mono (Kd.V_mono HO_306000.out (fun k_ hk => (⟨hk, hk.1.2⟩ : _ ∧ k_ ≠ gb347))) (fun k_ hk => (⟨hk, hk.1.2⟩ : _ ∧ k_ ≠ gb348))) (fun _ hk => hk.1.2) (.slice Ao257 t342.length co257)) (fun _ hk => hk.2) (.int .i64 t345)) (fun _ hk => hk.2) (.int .i64 t346)) (fun _ hk => ⟨hk.1.1.1.1.1.1.1.1.1.1, ⟨hk.1.1.1.1.1.1.1.1.1.2.1, ⟨hk.1.1.1.1.1.1.1.1.1.2.2.1, ⟨hk.1.1.1.1.1.1.1.1.1.2.2.2.1, ⟨hk.1.1.1.1.1.1.1.1.1.2.2.2.2.1, ⟨hk.1.1.1.1.1.1.1.1.1.2.2.2.2.2.1, ⟨hk.1.1.1.1.1.1.1.1.1.2.2.2.2.2.2.1, ⟨hk.1.1.1.1.1.1.1.1.1.2.2.2.2.2.2.2.1, ⟨hk.1.1.1.1.1.1.1.1.1.2.2.2.2.2.2.2.2, ⟨hk.1.1.1.1.1.1.1.1.2, ⟨hk.1.1.1.1.1.1.1.2, ⟨hk.1.1.1.1.1.1.2, ⟨hk.1.1.1.1.1.2, ⟨hk.1.1.1.1.2, ⟨hk.1.1.1.2, hk.1.1.2⟩⟩⟩⟩⟩⟩⟩⟩⟩⟩⟩⟩⟩⟩⟩)⟩, ⟨by (with_reducible repeat (first|apply Kd.V_alloc|apply Kd.V_drewN|apply Kd.V_drew));exact Kd.V_mono (Kd.V_far (p := ⟨gb348, 1, none⟩) (Kd.V_far (p := ⟨gb348, 0, none⟩) (Kd.V_far (p := ⟨gb347, 0, none⟩) (Kd.V_mono (Kd.V_mono HO_307000.out (fun k_ hk => (⟨hk, hk.1.2⟩ : _ ∧ k_ ≠ gb347))) (fun k_ hk => (⟨hk, hk.1.2⟩ : _ ∧ k_ ≠ gb348))) (fun _ hk => hk.1.2) (.slice Ao257 t342.length co257)) (fun _ hk => hk.2) (.int .i64 t345)) (fun _ hk => hk.2) (.int .i64 t346)) (fun _ hk => ⟨hk.1.1.1.1.1.1.1.1.1.1, ⟨hk.1.1.1.1.1.1.1.1.1.2.1, ⟨hk.1.1.1.1.1.1.1.1.1.2.2.1, ⟨hk.1.1.1.1.1.1.1.1.1.2.2.2.1, ⟨hk.1.1.1.1.1.1.1.1.1.2.2.2.2.1, ⟨hk.1.1.1.1.1.1.1.1.1.2.2.2.2.2.1, ⟨hk.1.1.1.1.1.1.1.1.1.2.2.2.2.2.2.1, ⟨hk.1.1.1.1.1.1.1.1.1.2.2.2.2.2.2.2.1, ⟨hk.1.1.1.1.1.1.1.1.1.2.2.2.2.2.2.2.2, ⟨hk.1.1.1.1.1.1.1.1.2, ⟨hk.1.1.1.1.1.1.1.2, ⟨hk.1.1.1.1.1.1.2, ⟨hk.1.1.1.1.1.2, ⟨hk.1.1.1.1.2, ⟨hk.1.1.1.2, hk.1.1.2⟩⟩⟩⟩⟩⟩⟩⟩⟩⟩⟩⟩⟩⟩⟩)⟩, ⟨by (with_reducible repeat (first|apply Kd.V_alloc|apply Kd.V_drewN|apply Kd.V_drew));exact Kd.V_mono (Kd.V_far (p := ⟨gb348, 1, none⟩) (Kd.V_far (p := ⟨gb348, 0, none⟩) (Kd.V_far (p := ⟨gb347, 0, none⟩) (Kd.V_mono (Kd.V_mono HO_314000.out (fun k_ hk => (⟨hk, hk.1.2⟩ : _ ∧ k_ ≠ gb347))) (fun k_ hk => (⟨hk, hk.1.2⟩ : _ ∧ k_ ≠ gb348))) (fun _ hk => hk.1.2) (.slice Ao257 t342.length co257)) (fun _ hk => hk.2) (.int .i64 t345)) (fun _ hk => hk.2) (.int .i64 t346)) (fun _ hk => ⟨hk.1.1.1.1.1.1.1.1.1.1, ⟨hk.1.1.1.1.1.1.1.1.1.2.1, ⟨hk.1.1.1.1.1.1.1.1.1.2.2.1, ⟨hk.1.1.1.1.1.1.1.1.1.2.2.2.1, ⟨hk.1.1.1.1.1.1.1.1.1.2.2.2.2.1, ⟨hk.1.1.1.1.1.1.1.1.1.2.2.2.2.2.1, ⟨hk.1.1.1.1.1.1.1.1.1.2.2.2.2.2.2.1, ⟨hk.1.1.1.1.1.1.1.1.1.2.2.2.2.2.2.2.1, ⟨hk.1.1.1.1.1.1.1.1.1.2.2.2.2.2.2.2.2, ⟨hk.1.1.1.1.1.1.1.1.2, ⟨hk.1.1.1.1.1.1.1.2, ⟨hk.1.1.1.1.1.1.2, ⟨hk.1.1.1.1.1.2, ⟨hk.1.1.1.1.2, ⟨hk.1.1.1.2, hk.1.1.2⟩⟩⟩⟩⟩⟩⟩⟩⟩⟩⟩⟩⟩⟩⟩)⟩, ⟨by (with_reducible repeat (first|apply Kd.V_alloc|apply Kd.V_drewN|apply Kd.V_drew));exact Kd.V_mono (Kd.V_far (p := ⟨gb348, 1, none⟩) (Kd.V_far (p := ⟨gb348, 0, none⟩) (Kd.V_far (p := ⟨gb347, 0, none⟩) (Kd.V_mono (Kd.V_mono HO_321000.out (fun k_ hk => (⟨hk, hk.1.2⟩ : _ ∧ k_ ≠ gb347))) (fun k_ hk => (⟨hk, hk.1.2⟩ : _ ∧ k_ ≠ gb348))) (fun _ hk => hk.1.2) (.slice Ao257 t342.length co257)) (fun _ hk => hk.2) (.int .i64 t345)) (fun _ hk => hk.2) (.int .i64 t346)) (fun _ hk => ⟨hk.1.1.1.1.1.1.1.1.1.1, ⟨hk.1.1.1.1.1.1.1.1.1.2.1, ⟨hk.1.1.1.1.1.1.1.1.1.2.2.1, ⟨hk.1.1.1.1.1.1.1.1.1.2.2.2.1, ⟨hk.1.1.1.1.1.1.1.1.1.2.2.2.2.1, ⟨hk.1.1.1.1.1.1.1.1.1.2.2.2.2.2.1, ⟨hk.1.1.1.1.1.1.1.1.1.2.2.2.2.2.2.1, ⟨hk.1.1.1.1.1.1.1.1.1.2.2.2.2.2.2.2.1, ⟨hk.1.1.1.1.1.1.1.1.1.2.2.2.2.2.2.2.2, ⟨hk.1.1.1.1.1.1.1.1.2, ⟨hk.1.1.1.1.1.1.1.2, ⟨hk.1.1.1.1.1.1.2, ⟨hk.1.1.1.1.1.2, ⟨hk.1.1.1.1.2, ⟨hk.1.1.1.2, hk.1.1.2⟩⟩⟩⟩⟩⟩⟩⟩⟩⟩⟩⟩⟩⟩⟩)⟩, ⟨by (with_reducible repeat (first|apply Kd.V_alloc|apply Kd.V_drewN|apply Kd.V_drew));exact Kd.V_mono (Kd.V_far (p := ⟨gb348, 1, none⟩) (Kd.V_far (p := ⟨gb348, 0, none⟩) (Kd.V_far (p := ⟨gb347, 0, none⟩) (Kd.V_mono (Kd.V_mono HO325.out (fun k_ hk => (⟨hk, hk.1.2⟩ : _ ∧ k_ ≠ gb347))) (fun k_ hk => (⟨hk, hk.1.2⟩ : _ ∧ k_ ≠ gb348))) (fun _ hk => hk.1.2) (.slice Ao257 t342.length co257)) (fun _ hk => hk.2) (.int .i64 t345)) (fun _ hk => hk.2) (.int .i64 t346)) (fun _ hk => ⟨hk.1.1.1.1.1.1.1.1.1.1, ⟨hk.1.1.1.1.1.1.1.1.1.2.1, ⟨hk.1.1.1.1.1.1.1.1.1.2.2.1, ⟨hk.1.1.1.1.1.1.1.1.1.2.2.2.1, ⟨hk.1.1.1.1.1.1.1.1.1.2.2.2.2.1, ⟨hk.1.1.1.1.1.1.1.1.1.2.2.2.2.2.1, ⟨hk.1.1.1.1.1.1.1.1.1.2.2.2.2.2.2.1, ⟨hk.1.1.1.1.1.1.1.1.1.2.2.2.2.2.2.2.1, ⟨hk.1.1.1.1.1.1.1.1.1.2.2.2.2.2.2.2.2, ⟨hk.1.1.1.1.1.1.1.1.2, ⟨hk.1.1.1.1.1.1.1.2, ⟨hk.1.1.1.1.1.1.2, ⟨hk.1.1.1.1.1.2, ⟨hk.1.1.1.1.2, ⟨hk.1.1.1.2, hk.1.1.2⟩⟩⟩⟩⟩⟩⟩⟩⟩⟩⟩⟩⟩⟩⟩)⟩, ⟨by (with_reducible repeat (first|apply Kd.V_alloc|apply Kd.V_drewN|apply Kd.V_drew));exact Kd.V_mono (Kd.V_far (p := ⟨gb348, 1, none⟩) (Kd.V_far (p := ⟨gb348, 0, none⟩) (Kd.V_far (p := ⟨gb347, 0, none⟩) (Kd.V_mono (Kd.V_mono HO328.out (fun k_ hk => (⟨hk, hk.1.2⟩ : _ ∧ k_ ≠ gb347))) (fun k_ hk => (⟨hk, hk.1.2⟩ : _ ∧ k_ ≠ gb348))) (fun _ hk => hk.1.2) (.slice Ao257 t342.length co257)) (fun _ hk => hk.2) (.int .i64 t345)) (fun _ hk => hk.2) (.int .i64 t346)) (fun _ hk => ⟨hk.1.1.1.1.1.1.1.1.1.1, ⟨hk.1.1.1.1.1.1.1.1.1.2.1, ⟨hk.1.1.1.1.1.1.1.1.1.2.2.1, ⟨hk.1.1.1.1.1.1.1.1.1.2.2.2.1, ⟨hk.1.1.1.1.1.1.1.1.1.2.2.2.2.1, ⟨hk.1.1.1.1.1.1.1.1.1.2.2.2.2.2.1, ⟨hk.1.1.1.1.1.1.1.1.1.2.2.2.2.2.2.1, ⟨hk.1.1.1.1.1.1.1.1.1.2.2.2.2.2.2.2.1, ⟨hk.1.1.1.1.1.1.1.1.1.2.2.2.2.2.2.2.2, ⟨hk.1.1.1.1.1.1.1.1.2, ⟨hk.1.1.1.1.1.1.1.2, ⟨hk.1.1.1.1.1.1.2, ⟨hk.1.1.1.1.1.2, ⟨hk.1.1.1.1.2, ⟨hk.1.1.1.2, hk.1.1.2⟩⟩⟩⟩⟩⟩⟩⟩⟩⟩⟩⟩⟩⟩⟩)⟩, ⟨by (with_reducible repeat (first|apply Kd.V_alloc|apply Kd.V_drewN|apply Kd.V_drew));exact Kd.V_mono (Kd.V_far (p := ⟨gb348, 1, none⟩) (Kd.V_far (p := ⟨gb348, 0, none⟩) (Kd.V_far (p := ⟨gb347, 0, none⟩) (Kd.V_mono (Kd.V_mono HO337.out (fun k_ hk => (⟨hk, hk.1.2⟩ : _ ∧ k_ ≠ gb347))) (fun k_ hk => (⟨hk, hk.1.2⟩ : _ ∧ k_ ≠ gb348))) (fun _ hk => hk.1.2) (.slice Ao257 t342.length co257)) (fun _ hk => hk.2) (.int .i64 t345)) (fun _ hk => hk.2) (.int .i64 t346)) (fun _ hk => ⟨hk.1.1.1.1.1.1.1, ⟨hk.1.1.1.1.1.1.2.1, ⟨hk.1.1.1.1.1.1.2.2.1, ⟨hk.1.1.1.1.1.1.2.2.2.1, ⟨hk.1.1.1.1.1.1.2.2.2.2.1, ⟨hk.1.1.1.1.1.1.2.2.2.2.2.1, ⟨hk.1.1.1.1.1.1.2.2.2.2.2.2.1, ⟨hk.1.1.1.1.1.1.2.2.2.2.2.2.2.1, ⟨hk.1.1.1.1.1.1.2.2.2.2.2.2.2.2.1, ⟨hk.1.1.1.1.1.1.2.2.2.2.2.2.2.2.2.1, ⟨hk.1.1.1.1.1.1.2.2.2.2.2.2.2.2.2.2.1, ⟨hk.1.1.1.1.1.1.2.2.2.2.2.2.2.2.2.2.2, ⟨hk.1.1.1.1.1.2, ⟨hk.1.1.1.1.2, ⟨hk.1.1.1.2, hk.1.1.2⟩⟩⟩⟩⟩⟩⟩⟩⟩⟩⟩⟩⟩⟩⟩)⟩, ⟨by (with_reducible repeat (first|apply Kd.V_alloc|apply Kd.V_drewN|apply Kd.V_drew));exact Kd.V_mono (Kd.V_far (p := ⟨gb348, 1, none⟩) (Kd.V_far (p := ⟨gb348, 0, none⟩) (Kd.V_far (p := ⟨gb347, 0, none⟩) (Kd.V_mono (Kd.V_mono HO344.out (fun k_ hk => (⟨hk, hk.1.2⟩ : _ ∧ k_ ≠ gb347))) (fun k_ hk => (⟨hk, hk.1.2⟩ : _ ∧ k_ ≠ gb348))) (fun _ hk => hk.1.2) (.slice Ao257 t342.length co257)) (fun _ hk => hk.2) (.int .i64 t345)) (fun _ hk => hk.2) (.int .i64 t346)) (fun _ hk => ⟨hk.1.1.1.1.1, ⟨hk.1.1.1.1.2.1, ⟨hk.1.1.1.1.2.2.1, ⟨hk.1.1.1.1.2.2.2.1, ⟨hk.1.1.1.1.2.2.2.2.1, ⟨hk.1.1.1.1.2.2.2.2.2.1, ⟨hk.1.1.1.1.2.2.2.2.2.2.1, ⟨hk.1.1.1.1.2.2.2.2.2.2.2.1, ⟨hk.1.1.1.1.2.2.2.2.2.2.2.2.1, ⟨hk.1.1.1.1.2.2.2.2.2.2.2.2.2.1, ⟨hk.1.1.1.1.2.2.2.2.2.2.2.2.2.2.1, ⟨hk.1.1.1.1.2.2.2.2.2.2.2.2.2.2.2.1, ⟨hk.1.1.1.1.2.2.2.2.2.2.2.2.2.2.2.2.1, ⟨hk.1.1.1.1.2.2.2.2.2.2.2.2.2.2.2.2.2, ⟨hk.1.1.1.2, hk.1.1.2⟩⟩⟩⟩⟩⟩⟩⟩⟩⟩⟩⟩⟩⟩⟩)⟩, ⟨kK⟩, ⟨kK⟩, ⟨kK⟩, ⟨kK⟩, ⟨kK⟩, ⟨kK⟩, ⟨kK⟩, ⟨kK⟩, ⟨kK⟩, ⟨kK⟩, ⟨kK⟩, ⟨kK⟩, ⟨kK⟩, ⟨kK⟩, ⟨kK⟩, ⟨kK⟩, ⟨eB⟩⟩
          · rw [if_neg c289] at H;have c289b0 : (t330 == 0) = false := beq_eq_false_iff_ne.mpr c289;have c289b1 : (t330 != 0) = true := bne_iff_ne.mpr c289
            (first|rw [c289b0]|(simp only [i64_w, i32_w];rw [c289b0])|skip)
            have H' := Aside0.mk H;clear H;have hnb367 := eq_false NB334_294.out;have hnc367 := eq_false NB294_334.out;have hnb368 := eq_false NB334_295.out;have hnc368 := eq_false NB295_334.out;have hnb369 := eq_false NB334_305.out;have hnc369 := eq_false NB305_334.out;have hnb370 := eq_false NB334_306.out;have hnc370 := eq_false NB306_334.out;have hnb371 := eq_false NB334_307.out;have hnc371 := eq_false NB307_334.out;have hnb372 := eq_false NB334_313.out;have hnc372 := eq_false NB313_334.out;have hnb373 := eq_false NB334_314.out;have hnc373 := eq_false NB314_334.out;have hnb374 := eq_false NB334_320.out;have hnc374 := eq_false NB320_334.out;have hnb375 := eq_false NB334_321.out;have hnc375 := eq_false NB321_334.out;have hnb376 := eq_false NB334_332.out;have hnc376 := eq_false NB332_334.out;have hnb377 := eq_false NB334_333.out;have hnc377 := eq_false NB333_334.out;have hnb378 := eq_false NB334_340.out;have hnc378 := eq_false NB340_334.out;have hnb379 := eq_false NB334_341.out;have hnc379 := eq_false NB341_334.out;have hnb380 := eq_false NB334_347.out;have hnc380 := eq_false NB347_334.out;have hnb381 := eq_false NB334_348.out;have hnc381 := eq_false NB348_334.out;have hcz382_0 := hC BK334 0 (.int .i64 t330);have hcz382_1 := hC BK334 1 (.int .i64 t331);have hfz382_0 := blk_frozen BK334.out 0;have hfz382_1 := blk_frozen BK334.out 1
            go_wp2
            go_meet
            case rel => exact ⟨_, (true), (by first|rfl|(simp only [i64_w, i32_w];done)|(simp only [i64_w, i32_w];rfl)|(simp;done)|(simp [*];done)), H', ⟨by have := HJ5.out;first|omega|exact Nat.le_refl _⟩, ⟨by (with_reducible repeat (first|apply Kd.V_alloc|apply Kd.V_drewN|apply Kd.V_drew));exact Kd.V_mono (Kd.V_far (p := ⟨gb348, 1, none⟩) (Kd.V_far (p := ⟨gb348, 0, none⟩) (Kd.V_far (p := ⟨gb347, 0, none⟩) (Kd.V_mono (Kd.V_mono HO_306000.out (fun k_ hk => (⟨hk, hk.1.2⟩ : _ ∧ k_ ≠ gb347))) (fun k_ hk => (⟨hk, hk.1.2⟩ : _ ∧ k_ ≠ gb348))) (fun _ hk => hk.1.2) (.slice Ao257 t342.length co257)) (fun _ hk => hk.2) (.int .i64 t345)) (fun _ hk => hk.2) (.int .i64 t346)) (fun _ hk => ⟨hk.1.1.1.1.1.1.1.1.1.1, ⟨hk.1.1.1.1.1.1.1.1.1.2.1, ⟨hk.1.1.1.1.1.1.1.1.1.2.2.1, ⟨hk.1.1.1.1.1.1.1.1.1.2.2.2.1, ⟨hk.1.1.1.1.1.1.1.1.1.2.2.2.2.1, ⟨hk.1.1.1.1.1.1.1.1.1.2.2.2.2.2.1, ⟨hk.1.1.1.1.1.1.1.1.1.2.2.2.2.2.2.1, ⟨hk.1.1.1.1.1.1.1.1.1.2.2.2.2.2.2.2.1, ⟨hk.1.1.1.1.1.1.1.1.1.2.2.2.2.2.2.2.2, ⟨hk.1.1.1.1.1.1.1.1.2, ⟨hk.1.1.1.1.1.1.1.2, ⟨hk.1.1.1.1.1.1.2, ⟨hk.1.1.1.1.1.2, ⟨hk.1.1.1.1.2, ⟨hk.1.1.1.2, hk.1.1.2⟩⟩⟩⟩⟩⟩⟩⟩⟩⟩⟩⟩⟩⟩⟩)⟩, ⟨by (with_reducible repeat (first|apply Kd.V_alloc|apply Kd.V_drewN|apply Kd.V_drew));exact Kd.V_mono (Kd.V_far (p := ⟨gb348, 1, none⟩) (Kd.V_far (p := ⟨gb348, 0, none⟩) (Kd.V_far (p := ⟨gb347, 0, none⟩) (Kd.V_mono (Kd.V_mono HO_307000.out (fun k_ hk => (⟨hk, hk.1.2⟩ : _ ∧ k_ ≠ gb347))) (fun k_ hk => (⟨hk, hk.1.2⟩ : _ ∧ k_ ≠ gb348))) (fun _ hk => hk.1.2) (.slice Ao257 t342.length co257)) (fun _ hk => hk.2) (.int .i64 t345)) (fun _ hk => hk.2) (.int .i64 t346)) (fun _ hk => ⟨hk.1.1.1.1.1.1.1.1.1.1, ⟨hk.1.1.1.1.1.1.1.1.1.2.1, ⟨hk.1.1.1.1.1.1.1.1.1.2.2.1, ⟨hk.1.1.1.1.1.1.1.1.1.2.2.2.1, ⟨hk.1.1.1.1.1.1.1.1.1.2.2.2.2.1, ⟨hk.1.1.1.1.1.1.1.1.1.2.2.2.2.2.1, ⟨hk.1.1.1.1.1.1.1.1.1.2.2.2.2.2.2.1, ⟨hk.1.1.1.1.1.1.1.1.1.2.2.2.2.2.2.2.1, ⟨hk.1.1.1.1.1.1.1.1.1.2.2.2.2.2.2.2.2, ⟨hk.1.1.1.1.1.1.1.1.2, ⟨hk.1.1.1.1.1.1.1.2, ⟨hk.1.1.1.1.1.1.2, ⟨hk.1.1.1.1.1.2, ⟨hk.1.1.1.1.2, ⟨hk.1.1.1.2, hk.1.1.2⟩⟩⟩⟩⟩⟩⟩⟩⟩⟩⟩⟩⟩⟩⟩)⟩, ⟨by (with_reducible repeat (first|apply Kd.V_alloc|apply Kd.V_drewN|apply Kd.V_drew));exact Kd.V_mono (Kd.V_far (p := ⟨gb348, 1, none⟩) (Kd.V_far (p := ⟨gb348, 0, none⟩) (Kd.V_far (p := ⟨gb347, 0, none⟩) (Kd.V_mono (Kd.V_mono HO_314000.out (fun k_ hk => (⟨hk, hk.1.2⟩ : _ ∧ k_ ≠ gb347))) (fun k_ hk => (⟨hk, hk.1.2⟩ : _ ∧ k_ ≠ gb348))) (fun _ hk => hk.1.2) (.slice Ao257 t342.length co257)) (fun _ hk => hk.2) (.int .i64 t345)) (fun _ hk => hk.2) (.int .i64 t346)) (fun _ hk => ⟨hk.1.1.1.1.1.1.1.1.1.1, ⟨hk.1.1.1.1.1.1.1.1.1.2.1, ⟨hk.1.1.1.1.1.1.1.1.1.2.2.1, ⟨hk.1.1.1.1.1.1.1.1.1.2.2.2.1, ⟨hk.1.1.1.1.1.1.1.1.1.2.2.2.2.1, ⟨hk.1.1.1.1.1.1.1.1.1.2.2.2.2.2.1, ⟨hk.1.1.1.1.1.1.1.1.1.2.2.2.2.2.2.1, ⟨hk.1.1.1.1.1.1.1.1.1.2.2.2.2.2.2.2.1, ⟨hk.1.1.1.1.1.1.1.1.1.2.2.2.2.2.2.2.2, ⟨hk.1.1.1.1.1.1.1.1.2, ⟨hk.1.1.1.1.1.1.1.2, ⟨hk.1.1.1.1.1.1.2, ⟨hk.1.1.1.1.1.2, ⟨hk.1.1.1.1.2, ⟨hk.1.1.1.2, hk.1.1.2⟩⟩⟩⟩⟩⟩⟩⟩⟩⟩⟩⟩⟩⟩⟩)⟩, ⟨by (with_reducible repeat (first|apply Kd.V_alloc|apply Kd.V_drewN|apply Kd.V_drew));exact Kd.V_mono (Kd.V_far (p := ⟨gb348, 1, none⟩) (Kd.V_far (p := ⟨gb348, 0, none⟩) (Kd.V_far (p := ⟨gb347, 0, none⟩) (Kd.V_mono (Kd.V_mono HO_321000.out (fun k_ hk => (⟨hk, hk.1.2⟩ : _ ∧ k_ ≠ gb347))) (fun k_ hk => (⟨hk, hk.1.2⟩ : _ ∧ k_ ≠ gb348))) (fun _ hk => hk.1.2) (.slice Ao257 t342.length co257)) (fun _ hk => hk.2) (.int .i64 t345)) (fun _ hk => hk.2) (.int .i64 t346)) (fun _ hk => ⟨hk.1.1.1.1.1.1.1.1.1.1, ⟨hk.1.1.1.1.1.1.1.1.1.2.1, ⟨hk.1.1.1.1.1.1.1.1.1.2.2.1, ⟨hk.1.1.1.1.1.1.1.1.1.2.2.2.1, ⟨hk.1.1.1.1.1.1.1.1.1.2.2.2.2.1, ⟨hk.1.1.1.1.1.1.1.1.1.2.2.2.2.2.1, ⟨hk.1.1.1.1.1.1.1.1.1.2.2.2.2.2.2.1, ⟨hk.1.1.1.1.1.1.1.1.1.2.2.2.2.2.2.2.1, ⟨hk.1.1.1.1.1.1.1.1.1.2.2.2.2.2.2.2.2, ⟨hk.1.1.1.1.1.1.1.1.2, ⟨hk.1.1.1.1.1.1.1.2, ⟨hk.1.1.1.1.1.1.2, ⟨hk.1.1.1.1.1.2, ⟨hk.1.1.1.1.2, ⟨hk.1.1.1.2, hk.1.1.2⟩⟩⟩⟩⟩⟩⟩⟩⟩⟩⟩⟩⟩⟩⟩)⟩, ⟨by (with_reducible repeat (first|apply Kd.V_alloc|apply Kd.V_drewN|apply Kd.V_drew));exact Kd.V_mono (Kd.V_far (p := ⟨gb348, 1, none⟩) (Kd.V_far (p := ⟨gb348, 0, none⟩) (Kd.V_far (p := ⟨gb347, 0, none⟩) (Kd.V_mono (Kd.V_mono HO325.out (fun k_ hk => (⟨hk, hk.1.2⟩ : _ ∧ k_ ≠ gb347))) (fun k_ hk => (⟨hk, hk.1.2⟩ : _ ∧ k_ ≠ gb348))) (fun _ hk => hk.1.2) (.slice Ao257 t342.length co257)) (fun _ hk => hk.2) (.int .i64 t345)) (fun _ hk => hk.2) (.int .i64 t346)) (fun _ hk => ⟨hk.1.1.1.1.1.1.1.1.1.1, ⟨hk.1.1.1.1.1.1.1.1.1.2.1, ⟨hk.1.1.1.1.1.1.1.1.1.2.2.1, ⟨hk.1.1.1.1.1.1.1.1.1.2.2.2.1, ⟨hk.1.1.1.1.1.1.1.1.1.2.2.2.2.1, ⟨hk.1.1.1.1.1.1.1.1.1.2.2.2.2.2.1, ⟨hk.1.1.1.1.1.1.1.1.1.2.2.2.2.2.2.1, ⟨hk.1.1.1.1.1.1.1.1.1.2.2.2.2.2.2.2.1, ⟨hk.1.1.1.1.1.1.1.1.1.2.2.2.2.2.2.2.2, ⟨hk.1.1.1.1.1.1.1.1.2, ⟨hk.1.1.1.1.1.1.1.2, ⟨hk.1.1.1.1.1.1.2, ⟨hk.1.1.1.1.1.2, ⟨hk.1.1.1.1.2, ⟨hk.1.1.1.2, hk.1.1.2⟩⟩⟩⟩⟩⟩⟩⟩⟩⟩⟩⟩⟩⟩⟩)⟩, ⟨by (with_reducible repeat (first|apply Kd.V_alloc|apply Kd.V_drewN|apply Kd.V_drew));exact Kd.V_mono (Kd.V_far (p := ⟨gb348, 1, none⟩) (Kd.V_far (p := ⟨gb348, 0, none⟩) (Kd.V_far (p := ⟨gb347, 0, none⟩) (Kd.V_mono (Kd.V_mono HO328.out (fun k_ hk => (⟨hk, hk.1.2⟩ : _ ∧ k_ ≠ gb347))) (fun k_ hk => (⟨hk, hk.1.2⟩ : _ ∧ k_ ≠ gb348))) (fun _ hk => hk.1.2) (.slice Ao257 t342.length co257)) (fun _ hk => hk.2) (.int .i64 t345)) (fun _ hk => hk.2) (.int .i64 t346)) (fun _ hk => ⟨hk.1.1.1.1.1.1.1.1.1.1, ⟨hk.1.1.1.1.1.1.1.1.1.2.1, ⟨hk.1.1.1.1.1.1.1.1.1.2.2.1, ⟨hk.1.1.1.1.1.1.1.1.1.2.2.2.1, ⟨hk.1.1.1.1.1.1.1.1.1.2.2.2.2.1, ⟨hk.1.1.1.1.1.1.1.1.1.2.2.2.2.2.1, ⟨hk.1.1.1.1.1.1.1.1.1.2.2.2.2.2.2.1, ⟨hk.1.1.1.1.1.1.1.1.1.2.2.2.2.2.2.2.1, ⟨hk.1.1.1.1.1.1.1.1.1.2.2.2.2.2.2.2.2, ⟨hk.1.1.1.1.1.1.1.1.2, ⟨hk.1.1.1.1.1.1.1.2, ⟨hk.1.1.1.1.1.1.2, ⟨hk.1.1.1.1.1.2, ⟨hk.1.1.1.1.2, ⟨hk.1.1.1.2, hk.1.1.2⟩⟩⟩⟩⟩⟩⟩⟩⟩⟩⟩⟩⟩⟩⟩)⟩, ⟨by (with_reducible repeat (first|apply Kd.V_alloc|apply Kd.V_drewN|apply Kd.V_drew));exact Kd.V_mono (Kd.V_far (p := ⟨gb348, 1, none⟩) (Kd.V_far (p := ⟨gb348, 0, none⟩) (Kd.V_far (p := ⟨gb347, 0, none⟩) (Kd.V_mono (Kd.V_mono HO337.out (fun k_ hk => (⟨hk, hk.1.2⟩ : _ ∧ k_ ≠ gb347))) (fun k_ hk => (⟨hk, hk.1.2⟩ : _ ∧ k_ ≠ gb348))) (fun _ hk => hk.1.2) (.slice Ao257 t342.length co257)) (fun _ hk => hk.2) (.int .i64 t345)) (fun _ hk => hk.2) (.int .i64 t346)) (fun _ hk => ⟨hk.1.1.1.1.1.1.1, ⟨hk.1.1.1.1.1.1.2.1, ⟨hk.1.1.1.1.1.1.2.2.1, ⟨hk.1.1.1.1.1.1.2.2.2.1, ⟨hk.1.1.1.1.1.1.2.2.2.2.1, ⟨hk.1.1.1.1.1.1.2.2.2.2.2.1, ⟨hk.1.1.1.1.1.1.2.2.2.2.2.2.1, ⟨hk.1.1.1.1.1.1.2.2.2.2.2.2.2.1, ⟨hk.1.1.1.1.1.1.2.2.2.2.2.2.2.2.1, ⟨hk.1.1.1.1.1.1.2.2.2.2.2.2.2.2.2.1, ⟨hk.1.1.1.1.1.1.2.2.2.2.2.2.2.2.2.2.1, ⟨hk.1.1.1.1.1.1.2.2.2.2.2.2.2.2.2.2.2, ⟨hk.1.1.1.1.1.2, ⟨hk.1.1.1.1.2, ⟨hk.1.1.1.2, hk.1.1.2⟩⟩⟩⟩⟩⟩⟩⟩⟩⟩⟩⟩⟩⟩⟩)⟩, ⟨by (with_reducible repeat (first|apply Kd.V_alloc|apply Kd.V_drewN|apply Kd.V_drew));exact Kd.V_mono (Kd.V_far (p := ⟨gb348, 1, none⟩) (Kd.V_far (p := ⟨gb348, 0, none⟩) (Kd.V_far (p := ⟨gb347, 0, none⟩) (Kd.V_mono (Kd.V_mono HO344.out (fun k_ hk => (⟨hk, hk.1.2⟩ : _ ∧ k_ ≠ gb347))) (fun k_ hk => (⟨hk, hk.1.2⟩ : _ ∧ k_ ≠ gb348))) (fun _ hk => hk.1.2) (.slice Ao257 t342.length co257)) (fun _ hk => hk.2) (.int .i64 t345)) (fun _ hk => hk.2) (.int .i64 t346)) (fun _ hk => ⟨hk.1.1.1.1.1, ⟨hk.1.1.1.1.2.1, ⟨hk.1.1.1.1.2.2.1, ⟨hk.1.1.1.1.2.2.2.1, ⟨hk.1.1.1.1.2.2.2.2.1, ⟨hk.1.1.1.1.2.2.2.2.2.1, ⟨hk.1.1.1.1.2.2.2.2.2.2.1, ⟨hk.1.1.1.1.2.2.2.2.2.2.2.1, ⟨hk.1.1.1.1.2.2.2.2.2.2.2.2.1, ⟨hk.1.1.1.1.2.2.2.2.2.2.2.2.2.1, ⟨hk.1.1.1.1.2.2.2.2.2.2.2.2.2.2.1, ⟨hk.1.1.1.1.2.2.2.2.2.2.2.2.2.2.2.1, ⟨hk.1.1.1.1.2.2.2.2.2.2.2.2.2.2.2.2.1, ⟨hk.1.1.1.1.2.2.2.2.2.2.2.2.2.2.2.2.2, ⟨hk.1.1.1.2, hk.1.1.2⟩⟩⟩⟩⟩⟩⟩⟩⟩⟩⟩⟩⟩⟩⟩)⟩, ⟨kK⟩, ⟨kK⟩, ⟨kK⟩, ⟨kK⟩, ⟨kK⟩, ⟨kK⟩, ⟨kK⟩, ⟨kK⟩, ⟨kK⟩, ⟨kK⟩, ⟨kK⟩, ⟨kK⟩, ⟨kK⟩, ⟨kK⟩, ⟨kK⟩, ⟨kK⟩, ⟨eB⟩⟩
        case rest =>
          clear HC153
          try clear c1
          try clear c2
          try clear p2
          try clear c3
          try clear c4
          try clear c5
          try clear c6
          try clear c7
          try clear c8
          try clear c9
          try clear c10
          try clear c11
          try clear c12
          try clear c13
          try clear c14
          try clear c15
          try clear c16
          try clear c17
          try clear c18
          try clear c19
          try clear c20
          try clear c21
          try clear c22
          try clear c23
          try clear c24
          try clear c25
          try clear c26
          try clear c27
          try clear c28
          try clear c29
          try clear c30
          try clear c31
          try clear c32
          try clear c33
          try clear c34
          try clear c35
          try clear c36
          try clear c37
          try clear c38
          try clear c39
          try clear c40
          try clear c42
          try clear c43
          try clear c44
          try clear c45
          try clear c46
          try clear c53
          try clear c54
          try clear c55
          try clear c56
          try clear c57
          try clear c58
          try clear c59
          try clear c60
          try clear c62
          try clear c63
          try clear c64
          try clear c65
          try clear c66
          try clear c67
          try clear c68
          try clear c70
          try clear c70b0
          try clear c70b1
          try clear c71
          try clear c71b0
          try clear c71b1
          try clear c72
          try clear c72b0
          try clear c72b1
          try clear c73
          try clear c74
          try clear c75
          try clear c76
          try clear c77
          try clear c78
          try clear c79
          try clear c80
          try clear c82
          try clear c83
          try clear c84
          try clear c85
          try clear c86
          try clear c87
          try clear c88
          try clear c90
          try clear c91
          try clear c92
          try clear c93
          try clear c94
          try clear c95
          try clear c97
          try clear c98
          try clear c99
          try clear c100
          try clear c101
          try clear c102
          try clear c103
          try clear c104
          try clear c106
          try clear c107
          try clear c108
          try clear c109
          try clear c110
          try clear c111
          try clear c112
          try clear c114
          try clear c115
          try clear c116
          try clear c117
          try clear c118
          try clear c119
          try clear c121
          try clear c122
          try clear c123
          try clear c124
          try clear c125
          try clear c126
          try clear c127
          try clear c128
          try clear c130
          try clear c131
          try clear c132
          try clear c133
          try clear c134
          try clear c135
          try clear c136
          try clear c138
          try clear c139
          try clear c140
          try clear c141
          try clear c142
          try clear c143
          try clear c144
          try clear c145
          try clear c147
          try clear c154
          try clear c155
          try clear c156
          try clear c157
          try clear c158
          try clear c159
          try clear c160
          try clear c161
          try clear c163
          try clear c164
          try clear c165
          try clear c166
          try clear c167
          try clear c168
          try clear c169
          try clear c176
          try clear c177
          try clear c178
          try clear c179
          try clear c180
          try clear c181
          try clear c182
          try clear c183
          try clear c184
          try clear c185
          try clear c186
          try clear c189
          try clear c190
          try clear c191
          try clear c192
          try clear c193
          try clear c194
          try clear c195
          try clear c196
          try clear c197
          try clear c198
          try clear c200
          try clear c201
          try clear c202
          try clear c203
          try clear c204
          try clear c205
          try clear c206
          try clear c207
          try clear c208
          try clear c210
          try clear c211
          try clear c212
          try clear c213
          try clear c214
          try clear c215
          try clear c221
          try clear c222
          try clear c223
          try clear c224
          try clear c225
          try clear c226
          try clear c227
          try clear c228
          try clear c229
          try clear c230
          try clear c231
          try clear c232
          try clear c233
          try clear c235
          try clear c236
          try clear c237
          try clear c238
          try clear c239
          try clear c240
          try clear c241
          try clear c242
          try clear c243
          try clear c244
          try clear c245
          try clear c246
          try clear c248
          try clear c249
          try clear c250
          try clear c251
          try clear c252
          try clear c258
          try clear c259
          try clear c260
          try clear c261
          try clear c262
          try clear c263
          try clear c264
          try clear c265
          try clear c266
          try clear c267
          try clear c268
          try clear c269
          try clear c270
          try clear c271
          try clear c272
          try clear c274
          try clear c275
          try clear c276
          try clear c277
          try clear c278
          try clear c279
          try clear c280
          try clear c281
          try clear c282
          try clear c283
          try clear c284
          try clear c285
          try clear c286
          try clear c287
          try clear c289
          try clear c289b0
          try clear c289b1
          try clear c290
          try clear c290b0
          try clear c290b1
          try clear c291
          try clear c292
          try clear c293
          try clear c294
          try clear c295
          try clear c296
          try clear c297
          try clear c298
          try clear c299
          try clear c300
          try clear c301
          try clear c302
          try clear c303
          try clear c304
          try clear c305
          try clear c307
          try clear c308
          try clear c309
          try clear c310
          try clear c311
          try clear c312
          try clear c313
          try clear c314
          try clear c315
          try clear c316
          try clear c317
          try clear c318
          try clear c319
          try clear c320
          try clear c322
          try clear c323
          try clear c324
          try clear c325
          try clear c326
          try clear c327
          try clear c328
          try clear c329
          try clear c330
          try clear c331
          try clear c332
          try clear c333
          try clear c334
          try clear c336
          try clear c337
          try clear c338
          try clear c339
          try clear c340
          try clear c341
          try clear c342
          try clear c343
          try clear c344
          try clear c345
          try clear c346
          try clear c347
          try clear c348
          try clear c349
          try clear c350
          try clear c352
          try clear c353
          try clear c354
          try clear c355
          try clear c356
          try clear c357
          try clear c358
          try clear c359
          try clear c360
          try clear c361
          try clear c362
          try clear c363
          try clear c364
          try clear c365
          try clear c367
          try clear c368
          try clear c369
          try clear c370
          try clear c371
          try clear c372
          try clear c373
          try clear c374
          try clear c375
          try clear c376
          try clear c377
          try clear c378
          try clear c379
          try clear c380
          try clear c381
          try clear hcz105_0
          try clear hcz105_1
          try clear hcz10_0
          try clear hcz113_0
          try clear hcz113_1
          try clear hcz11_0
          try clear hcz120_0
          try clear hcz120_1
          try clear hcz129_0
          try clear hcz129_1
          try clear hcz137_0
          try clear hcz137_1
          try clear hcz146_0
          try clear hcz146_1
          try clear hcz162_0
          try clear hcz170_0
          try clear hcz187_0
          try clear hcz199_0
          try clear hcz209_0
          try clear hcz209_1
          try clear hcz216_0
          try clear hcz21_0
          try clear hcz234_0
          try clear hcz247_0
          try clear hcz247_1
          try clear hcz253_0
          try clear hcz26_0
          try clear hcz273_0
          try clear hcz288_0
          try clear hcz288_1
          try clear hcz29_0
          try clear hcz29_1
          try clear hcz306_0
          try clear hcz306_1
          try clear hcz30_0
          try clear hcz321_0
          try clear hcz321_1
          try clear hcz335_0
          try clear hcz335_1
          try clear hcz351_0
          try clear hcz351_1
          try clear hcz366_0
          try clear hcz366_1
          try clear hcz382_0
          try clear hcz382_1
          try clear hcz41_0
          try clear hcz47_0
          try clear hcz47_1
          try clear hcz48_0
          try clear hcz61_0
          try clear hcz69_0
          try clear hcz69_1
          try clear hcz81_0
          try clear hcz81_1
          try clear hcz89_0
          try clear hcz89_1
          try clear hcz96_0
          try clear hcz96_1
          try clear hfz105_0
          try clear hfz105_1
          try clear hfz10_0
          try clear hfz113_0
          try clear hfz113_1
          try clear hfz11_0
          try clear hfz120_0
          try clear hfz120_1
          try clear hfz129_0
          try clear hfz129_1
          try clear hfz137_0
          try clear hfz137_1
          try clear hfz146_0
          try clear hfz146_1
          try clear hfz162_0
          try clear hfz170_0
          try clear hfz187_0
          try clear hfz199_0
          try clear hfz209_0
          try clear hfz209_1
          try clear hfz216_0
          try clear hfz21_0
          try clear hfz234_0
          try clear hfz247_0
          try clear hfz247_1
          try clear hfz253_0
          try clear hfz26_0
          try clear hfz273_0
          try clear hfz288_0
          try clear hfz288_1
          try clear hfz29_0
          try clear hfz29_1
          try clear hfz306_0
          try clear hfz306_1
          try clear hfz30_0
          try clear hfz321_0
          try clear hfz321_1
          try clear hfz335_0
          try clear hfz335_1
          try clear hfz351_0
          try clear hfz351_1
          try clear hfz366_0
          try clear hfz366_1
          try clear hfz382_0
          try clear hfz382_1
          try clear hfz41_0
          try clear hfz47_0
          try clear hfz47_1
          try clear hfz48_0
          try clear hfz61_0
          try clear hfz69_0
          try clear hfz69_1
          try clear hfz81_0
          try clear hfz81_1
          try clear hfz89_0
          try clear hfz89_1
          try clear hfz96_0
          try clear hfz96_1
          try clear p2
          obtain ⟨kq, x87_152, rfl, HA, HJ152, HO_306000, HO_307000, HO_314000, HO_321000, HO_333000, HO_334000, HO_341000, HO_348000, BK294, BK295, BK305, BK306, BK307, BK313, BK314, BK320, BK321, BK332, BK333, BK334, BK340, BK341, BK347, BK348, HB⟩ := hcut
          cases kq with
          | zero => exact absurd HA.out (by simp [changeforgelaw1_CommuteInverse.j1])
          | succ kj152 =>
            have H := HA.out;clear HA;simp only [changeforgelaw1_CommuteInverse.j1] at H
            by_cases c383 : x87_152 = true
            · subst c383;have H1 : ((changeforgelaw1_exchanged.f kj152).bind fun t349 => (some t349)) = some r := (by rw [if_pos rfl] at H;exact H);clear H;have H := H1;clear H1;replace H := Option.bind_eq_some_iff.mp H;obtain ⟨t349, A3840, H⟩ := H;replace H : (some t349) = some r := H;have A384 := Aside0.mk A3840;clear A3840;obtain rfl := Option.some.inj H
              go_wp2_with (first|((with_reducible refine gate_callee (f := 28) rfl ?_);refine goesL_ (some 88) rfl rfl Try.func28 (by kernel_rfl) rfl #[] rfl mA ?_;(with_reducible refine (changeforgelaw1_exchanged.calls kj152  t349 _ A384.out hrt).mono ?_);rintro e w385 ⟨rfl, hb⟩;refine ⟨_, rfl, ?_⟩;replace HO_306000 := Aside0.mk (Kd.V_below (vK HO_306000) hb);replace HO_307000 := Aside0.mk (Kd.V_below (vK HO_307000) hb);replace HO_314000 := Aside0.mk (Kd.V_below (vK HO_314000) hb);replace HO_321000 := Aside0.mk (Kd.V_below (vK HO_321000) hb);replace HO_333000 := Aside0.mk (Kd.V_below (vK HO_333000) hb);replace HO_334000 := Aside0.mk (Kd.V_below (vK HO_334000) hb);replace HO_341000 := Aside0.mk (Kd.V_below (vK HO_341000) hb);replace HO_348000 := Aside0.mk (Kd.V_below (vK HO_348000) hb);replace BK294 := lJ BK294 hb;replace BK295 := lJ BK295 hb;replace BK305 := lJ BK305 hb;replace BK306 := lJ BK306 hb;replace BK307 := lJ BK307 hb;replace BK313 := lJ BK313 hb;replace BK314 := lJ BK314 hb;replace BK320 := lJ BK320 hb;replace BK321 := lJ BK321 hb;replace BK332 := lJ BK332 hb;replace BK333 := lJ BK333 hb;replace BK334 := lJ BK334 hb;replace BK340 := lJ BK340 hb;replace BK341 := lJ BK341 hb;replace BK347 := lJ BK347 hb;replace BK348 := lJ BK348 hb;replace HB := sBe HB hb;(try clear hb)))
              go_ret
              exact ⟨rW, eB⟩
            · replace c383 := Bool.eq_false_iff.mpr c383;subst c383;have H1 : (if t329 = true then ((changeforgeequal_Patch.f kj152 t323 t335).bind fun t350 => (if t350 = true then ((changeforgeequal_Patch.f kj152 t326 t342).bind fun t351 => (if t351 = true then ((changeforgelaw1_exchanged.f kj152).bind fun t352 => (some t352)) else (some false))) else (some false))) else (some false)) = some r := (by rw [if_neg (show ¬ (false = true) by decide)] at H;exact H);clear H;have H := H1;clear H1
              by_cases c386 : t329 = true
              · subst c386;have H1 : ((changeforgeequal_Patch.f kj152 t323 t335).bind fun t350 => (if t350 = true then ((changeforgeequal_Patch.f kj152 t326 t342).bind fun t351 => (if t351 = true then ((changeforgelaw1_exchanged.f kj152).bind fun t352 => (some t352)) else (some false))) else (some false))) = some r := (by rw [if_pos rfl] at H;exact H);clear H;have H := H1;clear H1;replace H := Option.bind_eq_some_iff.mp H;obtain ⟨t350, A3870, H⟩ := H;replace H : (if t350 = true then ((changeforgeequal_Patch.f kj152 t326 t342).bind fun t351 => (if t351 = true then ((changeforgelaw1_exchanged.f kj152).bind fun t352 => (some t352)) else (some false))) else (some false)) = some r := H;have A387 := Aside0.mk A3870;clear A3870
                by_cases c388 : t350 = true
                · subst c388;have H1 : ((changeforgeequal_Patch.f kj152 t326 t342).bind fun t351 => (if t351 = true then ((changeforgelaw1_exchanged.f kj152).bind fun t352 => (some t352)) else (some false))) = some r := (by rw [if_pos rfl] at H;exact H);clear H;have H := H1;clear H1;replace H := Option.bind_eq_some_iff.mp H;obtain ⟨t351, A3890, H⟩ := H;replace H : (if t351 = true then ((changeforgelaw1_exchanged.f kj152).bind fun t352 => (some t352)) else (some false)) = some r := H;have A389 := Aside0.mk A3890;clear A3890
                  by_cases c390 : t351 = true
                  · subst c390;have H1 : ((changeforgelaw1_exchanged.f kj152).bind fun t352 => (some t352)) = some r := (by rw [if_pos rfl] at H;exact H);clear H;have H := H1;clear H1;replace H := Option.bind_eq_some_iff.mp H;obtain ⟨t352, A3910, H⟩ := H;replace H : (some t352) = some r := H;have A391 := Aside0.mk A3910;clear A3910;obtain rfl := Option.some.inj H;have hnb392 := eq_false NB332_294.out;have hnc392 := eq_false NB294_332.out;have hnb393 := eq_false NB332_295.out;have hnc393 := eq_false NB295_332.out;have hnb394 := eq_false NB332_305.out;have hnc394 := eq_false NB305_332.out;have hnb395 := eq_false NB332_306.out;have hnc395 := eq_false NB306_332.out;have hnb396 := eq_false NB332_307.out;have hnc396 := eq_false NB307_332.out;have hnb397 := eq_false NB332_313.out;have hnc397 := eq_false NB313_332.out;have hnb398 := eq_false NB332_314.out;have hnc398 := eq_false NB314_332.out;have hnb399 := eq_false NB332_320.out;have hnc399 := eq_false NB320_332.out;have hnb400 := eq_false NB332_321.out;have hnc400 := eq_false NB321_332.out;have hnb401 := eq_false NB332_333.out;have hnc401 := eq_false NB333_332.out;have hnb402 := eq_false NB332_334.out;have hnc402 := eq_false NB334_332.out;have hnb403 := eq_false NB332_340.out;have hnc403 := eq_false NB340_332.out;have hnb404 := eq_false NB332_341.out;have hnc404 := eq_false NB341_332.out;have hnb405 := eq_false NB332_347.out;have hnc405 := eq_false NB347_332.out;have hnb406 := eq_false NB332_348.out;have hnc406 := eq_false NB348_332.out;have hcz407_0 : wc.cell? ⟨gb332, 0, none⟩ = some (.slice Ao175 t323.length co175) := (blk_cell BK332.out 0).trans rfl;have hfz407_0 := blk_frozen BK332.out 0;have hnb408 := eq_false NB340_294.out;have hnc408 := eq_false NB294_340.out;have hnb409 := eq_false NB340_295.out;have hnc409 := eq_false NB295_340.out;have hnb410 := eq_false NB340_305.out;have hnc410 := eq_false NB305_340.out;have hnb411 := eq_false NB340_306.out;have hnc411 := eq_false NB306_340.out;have hnb412 := eq_false NB340_307.out;have hnc412 := eq_false NB307_340.out;have hnb413 := eq_false NB340_313.out;have hnc413 := eq_false NB313_340.out;have hnb414 := eq_false NB340_314.out;have hnc414 := eq_false NB314_340.out;have hnb415 := eq_false NB340_320.out;have hnc415 := eq_false NB320_340.out;have hnb416 := eq_false NB340_321.out;have hnc416 := eq_false NB321_340.out;have hnb417 := eq_false NB340_333.out;have hnc417 := eq_false NB333_340.out;have hnb418 := eq_false NB340_334.out;have hnc418 := eq_false NB334_340.out;have hnb419 := eq_false NB340_341.out;have hnc419 := eq_false NB341_340.out;have hnb420 := eq_false NB340_347.out;have hnc420 := eq_false NB347_340.out;have hnb421 := eq_false NB340_348.out;have hnc421 := eq_false NB348_340.out;have hcz422_0 : wc.cell? ⟨gb340, 0, none⟩ = some (.slice Ao220 t335.length co220) := (blk_cell BK340.out 0).trans rfl;have hfz422_0 := blk_frozen BK340.out 0
                    go_wp2_with (first|(go_at_call 22;(with_reducible refine (changeforgeequal_Patch.calls kj152 _ _ t323 _ _ t335 true _ ?side1 ?side2 ?side3 ?side4 A387.out).mono ?_);(case side1 => repeat (first|exact (Kd.V_reads' HO_333000.out).2.2|(with_reducible refine Kd.C_alloc ?_ _)|(with_reducible refine Kd.C_drewN ?_ _)|(with_reducible refine Kd.C_drew ?_)));(case side2 => exact (Kd.V_reads' HO_333000.out).2.1);(case side3 => repeat (first|exact (Kd.V_reads' HO_341000.out).2.2|(with_reducible refine Kd.C_alloc ?_ _)|(with_reducible refine Kd.C_drewN ?_ _)|(with_reducible refine Kd.C_drew ?_)));(case side4 => exact (Kd.V_reads' HO_341000.out).2.1);rintro e w423 ⟨rfl, hb⟩;replace HO_306000 := Aside0.mk (Kd.V_below (vK HO_306000) hb);replace HO_307000 := Aside0.mk (Kd.V_below (vK HO_307000) hb);replace HO_314000 := Aside0.mk (Kd.V_below (vK HO_314000) hb);replace HO_321000 := Aside0.mk (Kd.V_below (vK HO_321000) hb);replace HO_333000 := Aside0.mk (Kd.V_below (vK HO_333000) hb);replace HO_334000 := Aside0.mk (Kd.V_below (vK HO_334000) hb);replace HO_341000 := Aside0.mk (Kd.V_below (vK HO_341000) hb);replace HO_348000 := Aside0.mk (Kd.V_below (vK HO_348000) hb);replace BK294 := lJ BK294 hb;replace BK295 := lJ BK295 hb;replace BK305 := lJ BK305 hb;replace BK306 := lJ BK306 hb;replace BK307 := lJ BK307 hb;replace BK313 := lJ BK313 hb;replace BK314 := lJ BK314 hb;replace BK320 := lJ BK320 hb;replace BK321 := lJ BK321 hb;replace BK332 := lJ BK332 hb;replace BK333 := lJ BK333 hb;replace BK334 := lJ BK334 hb;replace BK340 := lJ BK340 hb;replace BK341 := lJ BK341 hb;replace BK347 := lJ BK347 hb;replace BK348 := lJ BK348 hb;replace HB := sBe HB hb;(try clear hb);have hnb424 := eq_false NB333_294.out;have hnc424 := eq_false NB294_333.out;have hnb425 := eq_false NB333_295.out;have hnc425 := eq_false NB295_333.out;have hnb426 := eq_false NB333_305.out;have hnc426 := eq_false NB305_333.out;have hnb427 := eq_false NB333_306.out;have hnc427 := eq_false NB306_333.out;have hnb428 := eq_false NB333_307.out;have hnc428 := eq_false NB307_333.out;have hnb429 := eq_false NB333_313.out;have hnc429 := eq_false NB313_333.out;have hnb430 := eq_false NB333_314.out;have hnc430 := eq_false NB314_333.out;have hnb431 := eq_false NB333_320.out;have hnc431 := eq_false NB320_333.out;have hnb432 := eq_false NB333_321.out;have hnc432 := eq_false NB321_333.out;have hnb433 := eq_false NB333_334.out;have hnc433 := eq_false NB334_333.out;have hnb434 := eq_false NB333_341.out;have hnc434 := eq_false NB341_333.out;have hnb435 := eq_false NB333_347.out;have hnc435 := eq_false NB347_333.out;have hnb436 := eq_false NB333_348.out;have hnc436 := eq_false NB348_333.out;have hcz437_0 := hC BK333 0 (.slice Ao188 t326.length co188);have hfz437_0 := blk_frozen BK333.out 0;have hnb438 := eq_false NB347_294.out;have hnc438 := eq_false NB294_347.out;have hnb439 := eq_false NB347_295.out;have hnc439 := eq_false NB295_347.out;have hnb440 := eq_false NB347_305.out;have hnc440 := eq_false NB305_347.out;have hnb441 := eq_false NB347_306.out;have hnc441 := eq_false NB306_347.out;have hnb442 := eq_false NB347_307.out;have hnc442 := eq_false NB307_347.out;have hnb443 := eq_false NB347_313.out;have hnc443 := eq_false NB313_347.out;have hnb444 := eq_false NB347_314.out;have hnc444 := eq_false NB314_347.out;have hnb445 := eq_false NB347_320.out;have hnc445 := eq_false NB320_347.out;have hnb446 := eq_false NB347_321.out;have hnc446 := eq_false NB321_347.out;have hnb447 := eq_false NB347_334.out;have hnc447 := eq_false NB334_347.out;have hnb448 := eq_false NB347_341.out;have hnc448 := eq_false NB341_347.out;have hnb449 := eq_false NB347_348.out;have hnc449 := eq_false NB348_347.out;have hcz450_0 := hC BK347 0 (.slice Ao257 t342.length co257);have hfz450_0 := blk_frozen BK347.out 0)|(go_at_call 22;(with_reducible refine (changeforgeequal_Patch.calls kj152 _ _ t326 _ _ t342 true _ ?side1 ?side2 ?side3 ?side4 A389.out).mono ?_);(case side1 => repeat (first|exact (Kd.V_reads' HO_334000.out).2.2|(with_reducible refine Kd.C_alloc ?_ _)|(with_reducible refine Kd.C_drewN ?_ _)|(with_reducible refine Kd.C_drew ?_)));(case side2 => exact (Kd.V_reads' HO_334000.out).2.1);(case side3 => repeat (first|exact (Kd.V_reads' HO_348000.out).2.2|(with_reducible refine Kd.C_alloc ?_ _)|(with_reducible refine Kd.C_drewN ?_ _)|(with_reducible refine Kd.C_drew ?_)));(case side4 => exact (Kd.V_reads' HO_348000.out).2.1);rintro e w451 ⟨rfl, hb⟩;replace HO_306000 := Aside0.mk (Kd.V_below (vK HO_306000) hb);replace HO_307000 := Aside0.mk (Kd.V_below (vK HO_307000) hb);replace HO_314000 := Aside0.mk (Kd.V_below (vK HO_314000) hb);replace HO_321000 := Aside0.mk (Kd.V_below (vK HO_321000) hb);replace HO_333000 := Aside0.mk (Kd.V_below (vK HO_333000) hb);replace HO_334000 := Aside0.mk (Kd.V_below (vK HO_334000) hb);replace HO_341000 := Aside0.mk (Kd.V_below (vK HO_341000) hb);replace HO_348000 := Aside0.mk (Kd.V_below (vK HO_348000) hb);replace BK294 := lJ BK294 hb;replace BK295 := lJ BK295 hb;replace BK305 := lJ BK305 hb;replace BK306 := lJ BK306 hb;replace BK307 := lJ BK307 hb;replace BK313 := lJ BK313 hb;replace BK314 := lJ BK314 hb;replace BK320 := lJ BK320 hb;replace BK321 := lJ BK321 hb;replace BK332 := lJ BK332 hb;replace BK333 := lJ BK333 hb;replace BK334 := lJ BK334 hb;replace BK340 := lJ BK340 hb;replace BK341 := lJ BK341 hb;replace BK347 := lJ BK347 hb;replace BK348 := lJ BK348 hb;replace HB := sBe HB hb;(try clear hb))|(go_at_call 28;(with_reducible refine (changeforgelaw1_exchanged.calls kj152  t352 _ A391.out hrt).mono ?_);rintro e w452 ⟨rfl, hb⟩;replace HO_306000 := Aside0.mk (Kd.V_below (vK HO_306000) hb);replace HO_307000 := Aside0.mk (Kd.V_below (vK HO_307000) hb);replace HO_314000 := Aside0.mk (Kd.V_below (vK HO_314000) hb);replace HO_321000 := Aside0.mk (Kd.V_below (vK HO_321000) hb);replace HO_333000 := Aside0.mk (Kd.V_below (vK HO_333000) hb);replace HO_334000 := Aside0.mk (Kd.V_below (vK HO_334000) hb);replace HO_341000 := Aside0.mk (Kd.V_below (vK HO_341000) hb);replace HO_348000 := Aside0.mk (Kd.V_below (vK HO_348000) hb);replace BK294 := lJ BK294 hb;replace BK295 := lJ BK295 hb;replace BK305 := lJ BK305 hb;replace BK306 := lJ BK306 hb;replace BK307 := lJ BK307 hb;replace BK313 := lJ BK313 hb;replace BK314 := lJ BK314 hb;replace BK320 := lJ BK320 hb;replace BK321 := lJ BK321 hb;replace BK332 := lJ BK332 hb;replace BK333 := lJ BK333 hb;replace BK334 := lJ BK334 hb;replace BK340 := lJ BK340 hb;replace BK341 := lJ BK341 hb;replace BK347 := lJ BK347 hb;replace BK348 := lJ BK348 hb;replace HB := sBe HB hb;(try clear hb)))
                    go_ret
                    exact ⟨rW, eB⟩
                  · replace c390 := Bool.eq_false_iff.mpr c390;subst c390;have H1 : (some false) = some r := (by rw [if_neg (show ¬ (false = true) by decide)] at H;exact H);clear H;have H := H1;clear H1;obtain rfl := Option.some.inj H;exact absurd hrt (by decide)
                · replace c388 := Bool.eq_false_iff.mpr c388;subst c388;have H1 : (some false) = some r := (by rw [if_neg (show ¬ (false = true) by decide)] at H;exact H);clear H;have H := H1;clear H1;obtain rfl := Option.some.inj H;exact absurd hrt (by decide)
              · replace c386 := Bool.eq_false_iff.mpr c386;subst c386;have H1 : (some false) = some r := (by rw [if_neg (show ¬ (false = true) by decide)] at H;exact H);clear H;have H := H1;clear H1;obtain rfl := Option.some.inj H;exact absurd hrt (by decide)
/-- THE ONE PURE STATEMENT of changeforgelaw1_CommuteInverse: yours. -/
def changeforgelaw1_CommuteInverse.Pure : Prop := ∀ (l0_0 : List (S47)) (l1_0 : List (S47)), l0_0.length ≤ maxLen → (∀ x ∈ l0_0, ((Lit.int .i64 x.f0).wf = true) ∧ ((x.f1.length ≤ maxLen ∧ ∀ yxf1 ∈ x.f1, yxf1.size ≤ maxLen) ∧ ((x.f2.length ≤ maxLen ∧ ∀ yxf2 ∈ x.f2, yxf2.size ≤ maxLen)))) → l1_0.length ≤ maxLen → (∀ x ∈ l1_0, ((Lit.int .i64 x.f0).wf = true) ∧ ((x.f1.length ≤ maxLen ∧ ∀ yxf1 ∈ x.f1, yxf1.size ≤ maxLen) ∧ ((x.f2.length ≤ maxLen ∧ ∀ yxf2 ∈ x.f2, yxf2.size ≤ maxLen)))) → ∃ k, changeforgelaw1_CommuteInverse.f k l0_0 l1_0 = some true
theorem changeforgelaw1_CommuteInverse.walk (P : changeforgelaw1_CommuteInverse.Pure) (A0_0 : Option Addr) (c0_0 : Nat) (l0_0 : List (S47)) (A1_0 : Option Addr) (c1_0 : Nat) (l1_0 : List (S47)) (w : World) (hr0_0 : Kd.C k47 w A0_0 l0_0.length l0_0) (hc0_0 : l0_0.length ≤ c0_0) (hm0_0 : l0_0.length ≤ maxLen) (he0_0 : ∀ x ∈ l0_0, ((Lit.int .i64 x.f0).wf = true) ∧ ((x.f1.length ≤ maxLen ∧ ∀ yxf1 ∈ x.f1, yxf1.size ≤ maxLen) ∧ ((x.f2.length ≤ maxLen ∧ ∀ yxf2 ∈ x.f2, yxf2.size ≤ maxLen)))) (hr1_0 : Kd.C k47 w A1_0 l1_0.length l1_0) (hc1_0 : l1_0.length ≤ c1_0) (hm1_0 : l1_0.length ≤ maxLen) (he1_0 : ∀ x ∈ l1_0, ((Lit.int .i64 x.f0).wf = true) ∧ ((x.f1.length ≤ maxLen ∧ ∀ yxf1 ∈ x.f1, yxf1.size ≤ maxLen) ∧ ((x.f2.length ≤ maxLen ∧ ∀ yxf2 ∈ x.f2, yxf2.size ≤ maxLen)))) :
    Calls Try.prog 10 #[.agg #[.slice A0_0 l0_0.length c0_0], .agg #[.slice A1_0 l1_0.length c1_0]] w fun e w' => e = .returned (.bool true) ∧ Below w.heap.size w w' := by
  obtain ⟨k, h⟩ := P l0_0 l1_0 hm0_0 he0_0 hm1_0 he1_0;refine (changeforgelaw1_CommuteInverse.calls k _ _ l0_0 _ _ l1_0 true w hr0_0 hc0_0 hr1_0 hc1_0 h rfl).mono ?_
  rintro e w' ⟨rfl, hd⟩
  exact ⟨rfl, hd⟩

end Go.Proofs.Ytdnnkhogpobjbaa.PY
