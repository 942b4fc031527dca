/- Printed by a program of this session out of the translation: Lean functions for Go functions, and proofs that the Go functions answer the same. -/
import Derived.Test.YtdnnkhogpobjbaaPQ0
import Derived.Test.YtdnnkhogpobjbaaPQ3
import Derived.Test.YtdnnkhogpobjbaaPQ6
import Derived.Test.YtdnnkhogpobjbaaPQ7
import Derived.Test.YtdnnkhogpobjbaaPk2
namespace Go.Proofs.Ytdnnkhogpobjbaa.PQ
open Go.RowKit Go.Proofs.Ytdnnkhogpobjbaa.Pre Go.Proofs.YtdnnkhogpobjbaaW.PrintWords Go.Proofs.YtdnnkhogpobjbaaW.PrintLast Go.Proofs.YtdnnkhogpobjbaaW.PrintMore
attribute [local go_sem] max2_int min2_int max_two min_two max_three min_three max_four min_four   -- for this text's walks alone
set_option linter.unusedVariables false
set_option linter.unusedSimpArgs false

/-! ### changeforgelaw1_CommuteRebases: function 13 -/
mutual
def changeforgelaw1_CommuteRebases.j0 : Nat → List ByteArray → Bool → Bool → Bool → List (S47) → List (S47) → List (S47) → List (S47) → Option (Bool)
  | 0, _, _, _, _, _, _, _, _ => none
  | k + 1, x2, x8, x11, x42, x325000, x326000, x333000, x341000 => if x42 = true then ((changeforgelaw1_exchanged.f k).bind fun t342 => (some t342)) else (if (x8 != x11) = true then (some false) else ((textpatch_Apply.f x326000 x2).bind fun bt343 => ((textpatch_Apply.f x333000 bt343.1).bind fun bt349 => ((textpatch_Apply.f x325000 x2).bind fun bt355 => ((textpatch_Apply.f x341000 bt355.1).bind fun bt361 => (if x8 = true then (if bt343.2.1 = 0 then (if bt355.2.1 = 0 then (if bt349.2.1 = 10 then (changeforgelaw1_CommuteRebases.j1 k bt349.1 bt361.1 true bt349.2.1 bt349.2.2 bt361.2.1 bt361.2.2) else (changeforgelaw1_CommuteRebases.j1 k bt349.1 bt361.1 (bt361.2.1 == 10) bt349.2.1 bt349.2.2 bt361.2.1 bt361.2.2)) else (changeforgelaw1_CommuteRebases.j1 k bt349.1 bt361.1 true bt349.2.1 bt349.2.2 bt361.2.1 bt361.2.2)) else (changeforgelaw1_CommuteRebases.j1 k bt349.1 bt361.1 true bt349.2.1 bt349.2.2 bt361.2.1 bt361.2.2)) else (changeforgelaw1_CommuteRebases.j1 k bt349.1 bt361.1 true bt349.2.1 bt349.2.2 bt361.2.1 bt361.2.2)))))))
def changeforgelaw1_CommuteRebases.j1 : Nat → List ByteArray → List ByteArray → Bool → Int → Int → Int → Int → Option (Bool)
  | 0, _, _, _, _, _, _, _ => none
  | k + 1, x15, x19, x92, x355000, x355001, x367000, x367001 => if x92 = true then ((changeforgelaw1_exchanged.f k).bind fun t367 => (some t367)) else (if x355000 = 0 then (if x367000 = 0 then ((changeforgeequal_Strings.f x15 x19).bind fun t368 => (if t368 = true then ((changeforgelaw1_exchanged.f k).bind fun t369 => (some t369)) else (some false))) else (some false)) else (some false))
end
def changeforgelaw1_CommuteRebases.f (k : Nat) (l0_0 : List (S47)) (l1_0 : List (S47)) (l2 : List ByteArray) : Option (Bool) := (commute_Rebase.f k l0_0 l1_0).bind fun bt326 => ((commute_Rebase.f k l1_0 l0_0).bind fun bt334 => (if bt326.2.2.1 = 0 then (changeforgelaw1_CommuteRebases.j0 k l2 bt326.2.1 bt334.2.1 (bt334.2.2.1 != 0) l0_0 l1_0 bt326.1 bt334.1) else (changeforgelaw1_CommuteRebases.j0 k l2 bt326.2.1 bt334.2.1 true l0_0 l1_0 bt326.1 bt334.1)))
theorem changeforgelaw1_CommuteRebases.mono_l : ∀ k, (∀ y0 y1 y2 y3 y4 y5 y6 y7, LeO (changeforgelaw1_CommuteRebases.j0 k y0 y1 y2 y3 y4 y5 y6 y7) (changeforgelaw1_CommuteRebases.j0 (k + 1) y0 y1 y2 y3 y4 y5 y6 y7)) ∧ (∀ y0 y1 y2 y3 y4 y5 y6, LeO (changeforgelaw1_CommuteRebases.j1 k y0 y1 y2 y3 y4 y5 y6) (changeforgelaw1_CommuteRebases.j1 (k + 1) y0 y1 y2 y3 y4 y5 y6))
  | 0 => ⟨fun _ _ _ _ _ _ _ _ r h => by simp [changeforgelaw1_CommuteRebases.j0] at h, fun _ _ _ _ _ _ _ r h => by simp [changeforgelaw1_CommuteRebases.j1] at h⟩
  | k + 1 => by
    obtain ⟨ih0, ih1⟩ := changeforgelaw1_CommuteRebases.mono_l k;refine ⟨?_, ?_⟩
    · intro y0 y1 y2 y3 y4 y5 y6 y7
      unfold changeforgelaw1_CommuteRebases.j0
      repeat' first
      | (with_reducible exact ih0 _ _ _ _ _ _ _ _)
      | (with_reducible exact ih1 _ _ _ _ _ _ _)
      | (with_reducible exact changeforgelaw1_exchanged.mono _)
      | (with_reducible exact commute_Rebase.mono _ _ _)
      | (with_reducible exact LeO.refl _)
      | (with_reducible exact LeO.none _)
      | (with_reducible refine LeO.ite ?_ ?_)
      | (with_reducible refine LeO.bind ?_ (fun _ => ?_))
      | exact ih0 _ _ _ _ _ _ _ _
      | exact ih1 _ _ _ _ _ _ _
      | exact changeforgelaw1_exchanged.mono _
      | exact commute_Rebase.mono _ _ _
      | exact LeO.none _
      | refine LeO.ite ?_ ?_
      | refine LeO.bind ?_ (fun _ => ?_)
    · intro y0 y1 y2 y3 y4 y5 y6
      unfold changeforgelaw1_CommuteRebases.j1
      repeat' first
      | (with_reducible exact ih0 _ _ _ _ _ _ _ _)
      | (with_reducible exact ih1 _ _ _ _ _ _ _)
      | (with_reducible exact changeforgelaw1_exchanged.mono _)
      | (with_reducible exact commute_Rebase.mono _ _ _)
      | (with_reducible exact LeO.refl _)
      | (with_reducible exact LeO.none _)
      | (with_reducible refine LeO.ite ?_ ?_)
      | (with_reducible refine LeO.bind ?_ (fun _ => ?_))
      | exact ih0 _ _ _ _ _ _ _ _
      | exact ih1 _ _ _ _ _ _ _
      | exact changeforgelaw1_exchanged.mono _
      | exact commute_Rebase.mono _ _ _
      | exact LeO.none _
      | refine LeO.ite ?_ ?_
      | refine LeO.bind ?_ (fun _ => ?_)
theorem changeforgelaw1_CommuteRebases.mono : ∀ a0 a1 a2 k, LeO (changeforgelaw1_CommuteRebases.f k a0 a1 a2) (changeforgelaw1_CommuteRebases.f (k + 1) a0 a1 a2) := by
  intro a0 a1 a2 k
  obtain ⟨ih0, ih1⟩ := changeforgelaw1_CommuteRebases.mono_l k
  unfold changeforgelaw1_CommuteRebases.f
  repeat' first
      | (with_reducible exact ih0 _ _ _ _ _ _ _ _)
      | (with_reducible exact ih1 _ _ _ _ _ _ _)
      | (with_reducible exact changeforgelaw1_exchanged.mono _)
      | (with_reducible exact commute_Rebase.mono _ _ _)
      | (with_reducible exact LeO.refl _)
      | (with_reducible exact LeO.none _)
      | (with_reducible refine LeO.ite ?_ ?_)
      | (with_reducible refine LeO.bind ?_ (fun _ => ?_))
      | exact ih0 _ _ _ _ _ _ _ _
      | exact ih1 _ _ _ _ _ _ _
      | exact changeforgelaw1_exchanged.mono _
      | exact commute_Rebase.mono _ _ _
      | exact LeO.none _
      | refine LeO.ite ?_ ?_
      | refine LeO.bind ?_ (fun _ => ?_)
set_option maxHeartbeats 8000000 in
set_option maxRecDepth 100000 in
theorem changeforgelaw1_CommuteRebases.calls (k : Nat) (A0_0 : Option Addr) (c0_0 : Nat) (l0_0 : List (S47)) (A1_0 : Option Addr) (c1_0 : Nat) (l1_0 : List (S47)) (A2 : Option Addr) (c2 : Nat) (l2 : List ByteArray) (r : Bool) (w : World) (hr0_0 : Kd.C k47 w A0_0 l0_0.length l0_0) (hc0_0 : l0_0.length ≤ c0_0) (hr1_0 : Kd.C k47 w A1_0 l1_0.length l1_0) (hc1_0 : l1_0.length ≤ c1_0) (hr2 : Kd.C Kd.string w A2 l2.length l2) (hc2 : l2.length ≤ c2) (h : changeforgelaw1_CommuteRebases.f k l0_0 l1_0 l2 = some r) (hrt : r = true) :
    Calls Try.prog 13 #[.agg #[.slice A0_0 l0_0.length c0_0], .agg #[.slice A1_0 l1_0.length c1_0], .slice A2 l2.length c2] w fun e w' => e = .returned (.bool r) ∧ Below w.heap.size w w' := by
  have hu24 := Try.underlying24;have hu27 := Try.underlying27;have HR0_0 := Aside0.mk hr0_0;have HC0_0 := Aside0.mk hc0_0;clear hr0_0 hc0_0;have HR1_0 := Aside0.mk hr1_0;have HC1_0 := Aside0.mk hc1_0;clear hr1_0 hc1_0;have HR2 := Aside0.mk hr2;have HC2 := Aside0.mk hc2;clear hr2 hc2;have HB := Aside0.mk (Below.refl w.heap.size w);have H : ((commute_Rebase.f k l0_0 l1_0).bind fun bt326 => ((commute_Rebase.f k l1_0 l0_0).bind fun bt334 => (if bt326.2.2.1 = 0 then (changeforgelaw1_CommuteRebases.j0 k l2 bt326.2.1 bt334.2.1 (bt334.2.2.1 != 0) l0_0 l1_0 bt326.1 bt334.1) else (changeforgelaw1_CommuteRebases.j0 k l2 bt326.2.1 bt334.2.1 true l0_0 l1_0 bt326.1 bt334.1)))) = some r := h;clear h;replace H := Option.bind_eq_some_iff.mp H;obtain ⟨⟨t326, t329, t330, t331⟩, A40, H⟩ := H;replace H : ((commute_Rebase.f k l1_0 l0_0).bind fun bt334 => (if t330 = 0 then (changeforgelaw1_CommuteRebases.j0 k l2 t329 bt334.2.1 (bt334.2.2.1 != 0) l0_0 l1_0 t326 bt334.1) else (changeforgelaw1_CommuteRebases.j0 k l2 t329 bt334.2.1 true l0_0 l1_0 t326 bt334.1))) = some r := H;have A4 := Aside0.mk A40;clear A40;replace H := Option.bind_eq_some_iff.mp H;obtain ⟨⟨t334, t337, t338, t339⟩, A50, H⟩ := H;replace H : (if t330 = 0 then (changeforgelaw1_CommuteRebases.j0 k l2 t329 t337 (t338 != 0) l0_0 l1_0 t326 t334) else (changeforgelaw1_CommuteRebases.j0 k l2 t329 t337 true l0_0 l1_0 t326 t334)) = some r := H;have A5 := Aside0.mk A50;clear A50;have HC6 := Aside0.mk H;clear H
  go_enter Try.func13, Try.ntmps13
  go_upto_region 3 with (first|((with_reducible refine gate_dst (N := 3) rfl ?_);refine bE 3 #[.slice A0_0 l0_0.length c0_0] 24 ?_;intro gb324 hg w7 hbox hb;have BK324 := Aside0.mk (hbox);have GW324 := gBe HB hg;have GE324 := gBe HB hg;replace HB := sBe HB hb;clear hb hbox hg)|((with_reducible refine gate_dst (N := 4) rfl ?_);refine bE 4 #[.slice A1_0 l1_0.length c1_0] 24 ?_;intro gb325 hg w8 hbox hb;have BK325 := Aside0.mk (hbox);have GW325 := gBe HB hg;have GE325 := gBe HB hg;have NB324_325 := nL BK324 hg;have NB325_324 := nG BK324 hg;replace BK324 := lJ BK324 hb;replace HB := sBe HB hb;clear hb hbox hg;have hnb9 := eq_false NB324_325.out;have hnc9 := eq_false NB325_324.out;have hcz10_0 := hC BK324 0 (.slice A0_0 l0_0.length c0_0);have hfz10_0 := blk_frozen BK324.out 0;have hcz11_0 := hC BK325 0 (.slice A1_0 l1_0.length c1_0);have hfz11_0 := blk_frozen BK325.out 0)|((with_reducible refine gate_callee (f := 30) rfl ?_);refine goesL_ (some 24) rfl rfl Try.func30 (by kernel_rfl) rfl #[.agg #[.slice A0_0 l0_0.length c0_0], .agg #[.slice A1_0 l1_0.length c1_0]] rfl mA ?_;(with_reducible refine (commute_Rebase.calls k _ _ l0_0 _ _ l1_0 t326 t329 t330 t331 _ ?side1 ?side2 ?side3 ?side4 A4.out).mono ?_);(case side1 => exact cBe HR0_0);(case side2 => exact HC0_0.out);(case side3 => exact cBe HR1_0);(case side4 => exact HC1_0.out);rintro e w12 ⟨v327, rfl, ho0, hb⟩;refine ⟨_, rfl, ?_⟩;have HO328 := Aside0.mk (Kd.V_lower (Kd.V_mono (ok' := fun k_ => k_ ≠ gb324 ∧ k_ ≠ gb325) ho0 (fun k_ hk_ => ⟨gB BK324 hk_, gB BK325 hk_⟩)) (below_size eB));replace BK324 := lJ BK324 hb;replace BK325 := lJ BK325 hb;replace HB := sBe HB hb;(try clear hb ho0))|((with_reducible refine gate_dst (N := 7) rfl ?_);refine bE 7 #[.slice none 0 0] 24 ?_;intro gb332 hg w13 hbox hb;have BK332 := Aside0.mk (hbox);have GW332 := gBe HB hg;have GE332 := gBe HB hg;have NB324_332 := nL BK324 hg;have NB332_324 := nG BK324 hg;have NB325_332 := nL BK325 hg;have NB332_325 := nG BK325 hg;replace HO328 := vE HO328 gb332 hg hb;replace BK324 := lJ BK324 hb;replace BK325 := lJ BK325 hb;replace HB := sBe HB hb;clear hb hbox hg)|((with_reducible refine gate_dst (N := 9) rfl ?_);refine bE 9 #[.int .i64 0, .int .i64 0] 27 ?_;intro gb333 hg w14 hbox hb;have BK333 := Aside0.mk (hbox);have GW333 := gBe HB hg;have GE333 := gBe HB hg;have NB324_333 := nL BK324 hg;have NB333_324 := nG BK324 hg;have NB325_333 := nL BK325 hg;have NB333_325 := nG BK325 hg;have NB332_333 := nL BK332 hg;have NB333_332 := nG BK332 hg;replace HO328 := vE HO328 gb333 hg hb;replace BK324 := lJ BK324 hb;replace BK325 := lJ BK325 hb;replace BK332 := lJ BK332 hb;replace HB := sBe HB hb;clear hb hbox hg;obtain ⟨Ao15, co15, eo15⟩ := Kd.V_slice HO328.out;subst eo15;have hnb16 := eq_false NB332_324.out;have hnc16 := eq_false NB324_332.out;have hnb17 := eq_false NB332_325.out;have hnc17 := eq_false NB325_332.out;have hnb18 := eq_false NB332_333.out;have hnc18 := eq_false NB333_332.out;have hcz19_0 := hC BK332 0 (.slice none 0 0);have hfz19_0 := blk_frozen BK332.out 0;have hnb20 := eq_false NB333_324.out;have hnc20 := eq_false NB324_333.out;have hnb21 := eq_false NB333_325.out;have hnc21 := eq_false NB325_333.out;have hcz22_0 := hC BK333 0 (.int .i64 0);have hcz22_1 := hC BK333 1 (.int .i64 0);have hfz22_0 := blk_frozen BK333.out 0;have hfz22_1 := blk_frozen BK333.out 1;have hcz23_0 := hC BK325 0 (.slice A1_0 l1_0.length c1_0);have hfz23_0 := blk_frozen BK325.out 0;have hcz24_0 := hC BK324 0 (.slice A0_0 l0_0.length c0_0);have hfz24_0 := blk_frozen BK324.out 0)|((with_reducible refine gate_callee (f := 30) rfl ?_);refine goesL_ (some 31) rfl rfl Try.func30 (by kernel_rfl) rfl #[.agg #[.slice A1_0 l1_0.length c1_0], .agg #[.slice A0_0 l0_0.length c0_0]] rfl mA ?_;(with_reducible refine (commute_Rebase.calls k _ _ l1_0 _ _ l0_0 t334 t337 t338 t339 _ ?side1 ?side2 ?side3 ?side4 A5.out).mono ?_);(case side1 => exact Kd.C_below HR1_0.out eB);(case side2 => exact HC1_0.out);(case side3 => exact Kd.C_below HR0_0.out eB);(case side4 => exact HC0_0.out);rintro e w25 ⟨v335, rfl, ho0, hb⟩;refine ⟨_, rfl, ?_⟩;have HO336 := Aside0.mk (Kd.V_lower (Kd.V_mono (ok' := fun k_ => k_ ≠ gb324 ∧ k_ ≠ gb325 ∧ k_ ≠ gb332 ∧ k_ ≠ gb333) ho0 (fun k_ hk_ => ⟨gB BK324 hk_, gB BK325 hk_, gB BK332 hk_, gB BK333 hk_⟩)) (below_size eB));replace HO328 := Aside0.mk (Kd.V_below (by (with_reducible repeat (first|apply Kd.V_alloc|apply Kd.V_drewN|apply Kd.V_drew));exact (Kd.V_mono (Kd.V_mono (Kd.V_far (p := ⟨gb333, 1, none⟩) (Kd.V_far (p := ⟨gb333, 0, none⟩) (Kd.V_far (p := ⟨gb332, 0, none⟩) (Kd.V_mono (Kd.V_mono HO328.out (fun k_ hk => (⟨hk, hk.1.2⟩ : _ ∧ k_ ≠ gb332))) (fun k_ hk => (⟨hk, hk.1.2⟩ : _ ∧ k_ ≠ gb333))) (fun _ hk => hk.1.2) (.slice Ao15 t326.length co15)) (fun _ hk => hk.2) (.int .i64 t330)) (fun _ hk => hk.2) (.int .i64 t331)) (fun _ h_ => h_.1)) (fun _ h_ => h_.1))) hb);replace BK324 := lJ BK324 hb;replace BK325 := lJ BK325 hb;replace BK332 := lK gb332 24 #[.slice Ao15 t326.length co15] hb;replace BK333 := lK gb333 27 #[.int .i64 t330, .int .i64 t331] hb;replace HB := sBe HB hb;(try clear hb ho0))|((with_reducible refine gate_dst (N := 10) rfl ?_);refine bE 10 #[.slice none 0 0] 24 ?_;intro gb340 hg w26 hbox hb;have BK340 := Aside0.mk (hbox);have GW340 := gBe HB hg;have GE340 := gBe HB hg;have NB324_340 := nL BK324 hg;have NB340_324 := nG BK324 hg;have NB325_340 := nL BK325 hg;have NB340_325 := nG BK325 hg;have NB332_340 := nL BK332 hg;have NB340_332 := nG BK332 hg;have NB333_340 := nL BK333 hg;have NB340_333 := nG BK333 hg;replace HO328 := vE HO328 gb340 hg hb;replace HO336 := vE HO336 gb340 hg hb;replace BK324 := lJ BK324 hb;replace BK325 := lJ BK325 hb;replace BK332 := lJ BK332 hb;replace BK333 := lJ BK333 hb;replace HB := sBe HB hb;clear hb hbox hg)|((with_reducible refine gate_dst (N := 12) rfl ?_);refine bE 12 #[.int .i64 0, .int .i64 0] 27 ?_;intro gb341 hg w27 hbox hb;have BK341 := Aside0.mk (hbox);have GW341 := gBe HB hg;have GE341 := gBe HB hg;have NB324_341 := nL BK324 hg;have NB341_324 := nG BK324 hg;have NB325_341 := nL BK325 hg;have NB341_325 := nG BK325 hg;have NB332_341 := nL BK332 hg;have NB341_332 := nG BK332 hg;have NB333_341 := nL BK333 hg;have NB341_333 := nG BK333 hg;have NB340_341 := nL BK340 hg;have NB341_340 := nG BK340 hg;replace HO328 := vE HO328 gb341 hg hb;replace HO336 := vE HO336 gb341 hg hb;replace BK324 := lJ BK324 hb;replace BK325 := lJ BK325 hb;replace BK332 := lJ BK332 hb;replace BK333 := lJ BK333 hb;replace BK340 := lJ BK340 hb;replace HB := sBe HB hb;clear hb hbox hg;obtain ⟨Ao28, co28, eo28⟩ := Kd.V_slice HO336.out;subst eo28;have hnb29 := eq_false NB340_324.out;have hnc29 := eq_false NB324_340.out;have hnb30 := eq_false NB340_325.out;have hnc30 := eq_false NB325_340.out;have hnb31 := eq_false NB340_332.out;have hnc31 := eq_false NB332_340.out;have hnb32 := eq_false NB340_333.out;have hnc32 := eq_false NB333_340.out;have hnb33 := eq_false NB340_341.out;have hnc33 := eq_false NB341_340.out;have hcz34_0 := hC BK340 0 (.slice none 0 0);have hfz34_0 := blk_frozen BK340.out 0;have hnb35 := eq_false NB341_324.out;have hnc35 := eq_false NB324_341.out;have hnb36 := eq_false NB341_325.out;have hnc36 := eq_false NB325_341.out;have hnb37 := eq_false NB341_332.out;have hnc37 := eq_false NB332_341.out;have hnb38 := eq_false NB341_333.out;have hnc38 := eq_false NB333_341.out;have hcz39_0 := hC BK341 0 (.int .i64 0);have hcz39_1 := hC BK341 1 (.int .i64 0);have hfz39_0 := blk_frozen BK341.out 0;have hfz39_1 := blk_frozen BK341.out 1))
  (try simp only [Act.put, sA, sB, sC])
  go_cut [42] (fun v42 wc => ∃ (kq : Nat) (x42_5 : Bool), v42 = .bool x42_5 ∧ Aside0 (changeforgelaw1_CommuteRebases.j0 kq l2 t329 t337 x42_5 l0_0 l1_0 t326 t334 = some r) ∧ Aside0 (kq ≤ k) ∧ Aside0 (Kd.V k47 47 wc w.heap.size (fun k_ => k_ ≠ gb324 ∧ k_ ≠ gb325 ∧ k_ ≠ gb332 ∧ k_ ≠ gb333 ∧ k_ ≠ gb340 ∧ k_ ≠ gb341) (.slice Ao15 t326.length co15) t326) ∧ Aside0 (Kd.V k47 47 wc w.heap.size (fun k_ => k_ ≠ gb324 ∧ k_ ≠ gb325 ∧ k_ ≠ gb332 ∧ k_ ≠ gb333 ∧ k_ ≠ gb340 ∧ k_ ≠ gb341) (.slice Ao28 t334.length co28) t334) ∧ Aside0 (wc.heap[gb324]? = some (.cells #[(.slice A0_0 l0_0.length c0_0)] 24 (0, 0))) ∧ Aside0 (wc.heap[gb325]? = some (.cells #[(.slice A1_0 l1_0.length c1_0)] 24 (0, 0))) ∧ Aside0 (wc.heap[gb332]? = some (.cells #[(.slice Ao15 t326.length co15)] 24 (0, 0))) ∧ Aside0 (wc.heap[gb333]? = some (.cells #[.int .i64 t330, .int .i64 t331] 27 (0, 0))) ∧ Aside0 (wc.heap[gb340]? = some (.cells #[(.slice Ao28 t334.length co28)] 24 (0, 0))) ∧ Aside0 (wc.heap[gb341]? = some (.cells #[.int .i64 t338, .int .i64 t339] 27 (0, 0))) ∧ Aside0 (Below w.heap.size w wc))
  case first =>
    have H := HC6.out;clear HC6
    by_cases c40 : t330 = 0
    · rw [if_pos c40] at H;have c40b0 : (t330 == 0) = true := beq_iff_eq.mpr c40;have c40b1 : (t330 != 0) = false := bne_eq_false_iff_eq.mpr c40;clear c40
      (first|rw [c40b0]|(simp only [i64_w, i32_w];rw [c40b0])|skip)
      have H' := Aside0.mk H;clear H;have hnb41 := eq_false NB333_324.out;have hnc41 := eq_false NB324_333.out;have hnb42 := eq_false NB333_325.out;have hnc42 := eq_false NB325_333.out;have hnb43 := eq_false NB333_332.out;have hnc43 := eq_false NB332_333.out;have hnb44 := eq_false NB333_340.out;have hnc44 := eq_false NB340_333.out;have hnb45 := eq_false NB333_341.out;have hnc45 := eq_false NB341_333.out;have hcz46_0 := hC BK333 0 (.int .i64 t330);have hcz46_1 := hC BK333 1 (.int .i64 t331);have hfz46_0 := blk_frozen BK333.out 0;have hfz46_1 := blk_frozen BK333.out 1;have hnb47 := eq_false NB341_324.out;have hnc47 := eq_false NB324_341.out;have hnb48 := eq_false NB341_325.out;have hnc48 := eq_false NB325_341.out;have hnb49 := eq_false NB341_332.out;have hnc49 := eq_false NB332_341.out;have hnb50 := eq_false NB341_340.out;have hnc50 := eq_false NB340_341.out;have hcz51_0 := hC BK341 0 (.int .i64 0);have hcz51_1 := hC BK341 1 (.int .i64 0);have hfz51_0 := blk_frozen BK341.out 0;have hfz51_1 := blk_frozen BK341.out 1
      go_wp2
      go_meet
      case rel => exact ⟨_, ((t338 != 0)), (by first|rfl|(simp only [i64_w, i32_w];done)|(simp only [i64_w, i32_w];rfl)|(simp;done)|(simp [*];done)), H', ⟨by first|omega|exact Nat.le_refl _⟩, ⟨by (with_reducible repeat (first|apply Kd.V_alloc|apply Kd.V_drewN|apply Kd.V_drew));exact fV HO328.out⟩, ⟨by (with_reducible repeat (first|apply Kd.V_alloc|apply Kd.V_drewN|apply Kd.V_drew));exact fV HO336.out⟩, ⟨kK⟩, ⟨kK⟩, ⟨kK⟩, ⟨kK⟩, ⟨kK⟩, ⟨kK⟩, ⟨eB⟩⟩
    · rw [if_neg c40] at H;have c40b0 : (t330 == 0) = false := beq_eq_false_iff_ne.mpr c40;have c40b1 : (t330 != 0) = true := bne_iff_ne.mpr c40
      (first|rw [c40b0]|(simp only [i64_w, i32_w];rw [c40b0])|skip)
      have H' := Aside0.mk H;clear H;have hnb52 := eq_false NB333_324.out;have hnc52 := eq_false NB324_333.out;have hnb53 := eq_false NB333_325.out;have hnc53 := eq_false NB325_333.out;have hnb54 := eq_false NB333_332.out;have hnc54 := eq_false NB332_333.out;have hnb55 := eq_false NB333_340.out;have hnc55 := eq_false NB340_333.out;have hnb56 := eq_false NB333_341.out;have hnc56 := eq_false NB341_333.out;have hcz57_0 := hC BK333 0 (.int .i64 t330);have hcz57_1 := hC BK333 1 (.int .i64 t331);have hfz57_0 := blk_frozen BK333.out 0;have hfz57_1 := blk_frozen BK333.out 1
      go_wp2
      go_meet
      case rel => exact ⟨_, (true), (by first|rfl|(simp only [i64_w, i32_w];done)|(simp only [i64_w, i32_w];rfl)|(simp;done)|(simp [*];done)), H', ⟨by first|omega|exact Nat.le_refl _⟩, ⟨by (with_reducible repeat (first|apply Kd.V_alloc|apply Kd.V_drewN|apply Kd.V_drew));exact fV HO328.out⟩, ⟨by (with_reducible repeat (first|apply Kd.V_alloc|apply Kd.V_drewN|apply Kd.V_drew));exact fV HO336.out⟩, ⟨kK⟩, ⟨kK⟩, ⟨kK⟩, ⟨kK⟩, ⟨kK⟩, ⟨kK⟩, ⟨eB⟩⟩
  case rest =>
    clear HC6
    try clear c1
    try clear c2
    try clear p2
    try clear c3
    try clear c4
    try clear c5
    try clear c9
    try clear c13
    try clear c16
    try clear c17
    try clear c18
    try clear c20
    try clear c21
    try clear c29
    try clear c30
    try clear c31
    try clear c32
    try clear c33
    try clear c35
    try clear c36
    try clear c37
    try clear c38
    try clear c40
    try clear c40b0
    try clear c40b1
    try clear c41
    try clear c42
    try clear c43
    try clear c44
    try clear c45
    try clear c47
    try clear c48
    try clear c49
    try clear c50
    try clear c52
    try clear c53
    try clear c54
    try clear c55
    try clear c56
    try clear hcz10_0
    try clear hcz11_0
    try clear hcz19_0
    try clear hcz22_0
    try clear hcz22_1
    try clear hcz23_0
    try clear hcz24_0
    try clear hcz34_0
    try clear hcz39_0
    try clear hcz39_1
    try clear hcz46_0
    try clear hcz46_1
    try clear hcz51_0
    try clear hcz51_1
    try clear hcz57_0
    try clear hcz57_1
    try clear hfz10_0
    try clear hfz11_0
    try clear hfz19_0
    try clear hfz22_0
    try clear hfz22_1
    try clear hfz23_0
    try clear hfz24_0
    try clear hfz34_0
    try clear hfz39_0
    try clear hfz39_1
    try clear hfz46_0
    try clear hfz46_1
    try clear hfz51_0
    try clear hfz51_1
    try clear hfz57_0
    try clear hfz57_1
    obtain ⟨kq, x42_5, rfl, HA, HJ5, HO_333000, HO_341000, BK324, BK325, BK332, BK333, BK340, BK341, HB⟩ := hcut
    cases kq with
    | zero => exact absurd HA.out (by simp [changeforgelaw1_CommuteRebases.j0])
    | succ kj5 =>
      have H := HA.out;clear HA;simp only [changeforgelaw1_CommuteRebases.j0] at H
      by_cases c58 : x42_5 = true
      · subst c58;have H1 : ((changeforgelaw1_exchanged.f kj5).bind fun t342 => (some t342)) = some r := (by rw [if_pos rfl] at H;exact H);clear H;have H := H1;clear H1;replace H := Option.bind_eq_some_iff.mp H;obtain ⟨t342, A590, H⟩ := H;replace H : (some t342) = some r := H;have A59 := Aside0.mk A590;clear A590;obtain rfl := Option.some.inj H
        go_wp2_with (first|((with_reducible refine gate_callee (f := 28) rfl ?_);refine goesL_ (some 43) rfl rfl Try.func28 (by kernel_rfl) rfl #[] rfl mA ?_;(with_reducible refine (changeforgelaw1_exchanged.calls kj5  t342 _ A59.out hrt).mono ?_);rintro e w60 ⟨rfl, hb⟩;refine ⟨_, rfl, ?_⟩;replace HO_333000 := Aside0.mk (Kd.V_below (vK HO_333000) hb);replace HO_341000 := Aside0.mk (Kd.V_below (vK HO_341000) hb);replace BK324 := lJ BK324 hb;replace BK325 := lJ BK325 hb;replace BK332 := lJ BK332 hb;replace BK333 := lJ BK333 hb;replace BK340 := lJ BK340 hb;replace BK341 := lJ BK341 hb;replace HB := sBe HB hb;(try clear hb)))
        go_ret
        exact ⟨rW, eB⟩
      · replace c58 := Bool.eq_false_iff.mpr c58;subst c58;have H1 : (if (t329 != t337) = true then (some false) else ((textpatch_Apply.f l1_0 l2).bind fun bt343 => ((textpatch_Apply.f t326 bt343.1).bind fun bt349 => ((textpatch_Apply.f l0_0 l2).bind fun bt355 => ((textpatch_Apply.f t334 bt355.1).bind fun bt361 => (if t329 = true then (if bt343.2.1 = 0 then (if bt355.2.1 = 0 then (if bt349.2.1 = 10 then (changeforgelaw1_CommuteRebases.j1 kj5 bt349.1 bt361.1 true bt349.2.1 bt349.2.2 bt361.2.1 bt361.2.2) else (changeforgelaw1_CommuteRebases.j1 kj5 bt349.1 bt361.1 (bt361.2.1 == 10) bt349.2.1 bt349.2.2 bt361.2.1 bt361.2.2)) else (changeforgelaw1_CommuteRebases.j1 kj5 bt349.1 bt361.1 true bt349.2.1 bt349.2.2 bt361.2.1 bt361.2.2)) else (changeforgelaw1_CommuteRebases.j1 kj5 bt349.1 bt361.1 true bt349.2.1 bt349.2.2 bt361.2.1 bt361.2.2)) else (changeforgelaw1_CommuteRebases.j1 kj5 bt349.1 bt361.1 true bt349.2.1 bt349.2.2 bt361.2.1 bt361.2.2))))))) = some r := (by rw [if_neg (show ¬ (false = true) by decide)] at H;exact H);clear H;have H := H1;clear H1
        by_cases c61 : (t329 != t337) = true
        · rw [if_pos c61] at H;have c61b0 : (t329 != t337) = true := c61;(try (have c61b1 : decide (t329 = t337) = false := by simpa using c61));(try (have c61b2 : (t329 == t337) = false := by simpa using c61));(try (have c61b3 : ¬ (t329 = t337) := by simpa using c61));clear c61;obtain rfl := Option.some.inj H;exact absurd hrt (by decide)
        · rw [if_neg c61] at H;have c61b0 : (t329 != t337) = false := (by simpa using c61);(try (have c61b1 : decide (t329 = t337) = true := by simpa using c61));(try (have c61b2 : (t329 == t337) = true := by simpa using c61));clear c61;replace H := Option.bind_eq_some_iff.mp H;obtain ⟨⟨t343, t346, t347⟩, A620, H⟩ := H;replace H : ((textpatch_Apply.f t326 t343).bind fun bt349 => ((textpatch_Apply.f l0_0 l2).bind fun bt355 => ((textpatch_Apply.f t334 bt355.1).bind fun bt361 => (if t329 = true then (if t346 = 0 then (if bt355.2.1 = 0 then (if bt349.2.1 = 10 then (changeforgelaw1_CommuteRebases.j1 kj5 bt349.1 bt361.1 true bt349.2.1 bt349.2.2 bt361.2.1 bt361.2.2) else (changeforgelaw1_CommuteRebases.j1 kj5 bt349.1 bt361.1 (bt361.2.1 == 10) bt349.2.1 bt349.2.2 bt361.2.1 bt361.2.2)) else (changeforgelaw1_CommuteRebases.j1 kj5 bt349.1 bt361.1 true bt349.2.1 bt349.2.2 bt361.2.1 bt361.2.2)) else (changeforgelaw1_CommuteRebases.j1 kj5 bt349.1 bt361.1 true bt349.2.1 bt349.2.2 bt361.2.1 bt361.2.2)) else (changeforgelaw1_CommuteRebases.j1 kj5 bt349.1 bt361.1 true bt349.2.1 bt349.2.2 bt361.2.1 bt361.2.2))))) = some r := H;have A62 := Aside0.mk A620;clear A620;replace H := Option.bind_eq_some_iff.mp H;obtain ⟨⟨t349, t352, t353⟩, A630, H⟩ := H;replace H : ((textpatch_Apply.f l0_0 l2).bind fun bt355 => ((textpatch_Apply.f t334 bt355.1).bind fun bt361 => (if t329 = true then (if t346 = 0 then (if bt355.2.1 = 0 then (if t352 = 10 then (changeforgelaw1_CommuteRebases.j1 kj5 t349 bt361.1 true t352 t353 bt361.2.1 bt361.2.2) else (changeforgelaw1_CommuteRebases.j1 kj5 t349 bt361.1 (bt361.2.1 == 10) t352 t353 bt361.2.1 bt361.2.2)) else (changeforgelaw1_CommuteRebases.j1 kj5 t349 bt361.1 true t352 t353 bt361.2.1 bt361.2.2)) else (changeforgelaw1_CommuteRebases.j1 kj5 t349 bt361.1 true t352 t353 bt361.2.1 bt361.2.2)) else (changeforgelaw1_CommuteRebases.j1 kj5 t349 bt361.1 true t352 t353 bt361.2.1 bt361.2.2)))) = some r := H;have A63 := Aside0.mk A630;clear A630;replace H := Option.bind_eq_some_iff.mp H;obtain ⟨⟨t355, t358, t359⟩, A640, H⟩ := H;replace H : ((textpatch_Apply.f t334 t355).bind fun bt361 => (if t329 = true then (if t346 = 0 then (if t358 = 0 then (if t352 = 10 then (changeforgelaw1_CommuteRebases.j1 kj5 t349 bt361.1 true t352 t353 bt361.2.1 bt361.2.2) else (changeforgelaw1_CommuteRebases.j1 kj5 t349 bt361.1 (bt361.2.1 == 10) t352 t353 bt361.2.1 bt361.2.2)) else (changeforgelaw1_CommuteRebases.j1 kj5 t349 bt361.1 true t352 t353 bt361.2.1 bt361.2.2)) else (changeforgelaw1_CommuteRebases.j1 kj5 t349 bt361.1 true t352 t353 bt361.2.1 bt361.2.2)) else (changeforgelaw1_CommuteRebases.j1 kj5 t349 bt361.1 true t352 t353 bt361.2.1 bt361.2.2))) = some r := H;have A64 := Aside0.mk A640;clear A640;replace H := Option.bind_eq_some_iff.mp H;obtain ⟨⟨t361, t364, t365⟩, A650, H⟩ := H;replace H : (if t329 = true then (if t346 = 0 then (if t358 = 0 then (if t352 = 10 then (changeforgelaw1_CommuteRebases.j1 kj5 t349 t361 true t352 t353 t364 t365) else (changeforgelaw1_CommuteRebases.j1 kj5 t349 t361 (t364 == 10) t352 t353 t364 t365)) else (changeforgelaw1_CommuteRebases.j1 kj5 t349 t361 true t352 t353 t364 t365)) else (changeforgelaw1_CommuteRebases.j1 kj5 t349 t361 true t352 t353 t364 t365)) else (changeforgelaw1_CommuteRebases.j1 kj5 t349 t361 true t352 t353 t364 t365)) = some r := H;have A65 := Aside0.mk A650;clear A650;have HC66 := Aside0.mk H;clear H;have hnb67 := eq_false NB325_324.out;have hnc67 := eq_false NB324_325.out;have hnb68 := eq_false NB325_332.out;have hnc68 := eq_false NB332_325.out;have hnb69 := eq_false NB325_333.out;have hnc69 := eq_false NB333_325.out;have hnb70 := eq_false NB325_340.out;have hnc70 := eq_false NB340_325.out;have hnb71 := eq_false NB325_341.out;have hnc71 := eq_false NB341_325.out;have hcz72_0 : wc.cell? ⟨gb325, 0, none⟩ = some (.slice A1_0 l1_0.length c1_0) := (blk_cell BK325.out 0).trans rfl;have hfz72_0 := blk_frozen BK325.out 0
          go_upto_region 11 with (first|((with_reducible refine gate_callee (f := 15) rfl ?_);refine goesL_ (some 50) rfl rfl Try.func15 (by kernel_rfl) rfl #[.agg #[.slice A1_0 l1_0.length c1_0], .slice A2 l2.length c2] rfl mA ?_;(with_reducible refine (textpatch_Apply.calls _ _ l1_0 _ _ l2 t343 t346 t347 _ ?side1 ?side2 ?side3 ?side4 A62.out).mono ?_);(case side1 => exact cBe HR1_0);(case side2 => exact HC1_0.out);(case side3 => exact cBe HR2);(case side4 => exact HC2.out);rintro e w73 ⟨v344, rfl, ho0, hb⟩;refine ⟨_, rfl, ?_⟩;have HO345 := Aside0.mk (Kd.R_lower ho0 (below_size eB));replace HO_333000 := Aside0.mk (Kd.V_elder' (vK HO_333000) (Kd.R_base ho0) hb);replace HO_341000 := Aside0.mk (Kd.V_elder' (vK HO_341000) (Kd.R_base ho0) hb);replace BK324 := lJ BK324 hb;replace BK325 := lJ BK325 hb;replace BK332 := lJ BK332 hb;replace BK333 := lJ BK333 hb;replace BK340 := lJ BK340 hb;replace BK341 := lJ BK341 hb;replace HB := sBe HB hb;(try clear hb ho0))|((with_reducible refine gate_dst (N := 14) rfl ?_);refine bE 14 #[.int .i64 0, .int .i64 0] 27 ?_;intro gb348 hg w74 hbox hb;have BK348 := Aside0.mk (hbox);have GW348 := gBe HB hg;have GE348 := gBe HB hg;have NB324_348 := nL BK324 hg;have NB348_324 := nG BK324 hg;have NB325_348 := nL BK325 hg;have NB348_325 := nG BK325 hg;have NB332_348 := nL BK332 hg;have NB348_332 := nG BK332 hg;have NB333_348 := nL BK333 hg;have NB348_333 := nG BK333 hg;have NB340_348 := nL BK340 hg;have NB348_340 := nG BK340 hg;have NB341_348 := nL BK341 hg;have NB348_341 := nG BK341 hg;replace HO_333000 := vE HO_333000 gb348 hg hb;replace HO_341000 := vE HO_341000 gb348 hg hb;replace HO345 := rL HO345 hb;replace BK324 := lJ BK324 hb;replace BK325 := lJ BK325 hb;replace BK332 := lJ BK332 hb;replace BK333 := lJ BK333 hb;replace BK340 := lJ BK340 hb;replace BK341 := lJ BK341 hb;replace HB := sBe HB hb;clear hb hbox hg;have hnb75 := eq_false NB348_324.out;have hnc75 := eq_false NB324_348.out;have hnb76 := eq_false NB348_325.out;have hnc76 := eq_false NB325_348.out;have hnb77 := eq_false NB348_332.out;have hnc77 := eq_false NB332_348.out;have hnb78 := eq_false NB348_333.out;have hnc78 := eq_false NB333_348.out;have hnb79 := eq_false NB348_340.out;have hnc79 := eq_false NB340_348.out;have hnb80 := eq_false NB348_341.out;have hnc80 := eq_false NB341_348.out;have hcz81_0 := hC BK348 0 (.int .i64 0);have hcz81_1 := hC BK348 1 (.int .i64 0);have hfz81_0 := blk_frozen BK348.out 0;have hfz81_1 := blk_frozen BK348.out 1;have hnb82 := eq_false NB332_324.out;have hnc82 := eq_false NB324_332.out;have hnb83 := eq_false NB332_333.out;have hnc83 := eq_false NB333_332.out;have hnb84 := eq_false NB332_340.out;have hnc84 := eq_false NB340_332.out;have hnb85 := eq_false NB332_341.out;have hnc85 := eq_false NB341_332.out;have hcz86_0 := hC BK332 0 (.slice Ao15 t326.length co15);have hfz86_0 := blk_frozen BK332.out 0;obtain ⟨Ao87, co87, eo87⟩ := Kd.R_slice HO345.out;subst eo87)|((with_reducible refine gate_callee (f := 15) rfl ?_);refine goesL_ (some 56) rfl rfl Try.func15 (by kernel_rfl) rfl #[.agg #[.slice Ao15 t326.length co15], .slice Ao87 t343.length co87] rfl mA ?_;(with_reducible refine (textpatch_Apply.calls _ _ t326 _ _ t343 t349 t352 t353 _ ?side1 ?side2 ?side3 ?side4 A63.out).mono ?_);(case side1 => refine (Kd.V_reads' (e := 47) (base := w.heap.size) (ok := fun k_ => (((k_ ≠ gb324 ∧ (k_ ≠ gb325 ∧ (k_ ≠ gb332 ∧ (k_ ≠ gb333 ∧ (k_ ≠ gb340 ∧ k_ ≠ gb341))))) ∧ some k_ ≠ ob Ao87 t343.length co87) ∧ k_ ≠ gb348)) (n := t326.length) (c := co15) ?_).2.2;exact (by (with_reducible repeat (first|apply Kd.V_alloc|apply Kd.V_drewN|apply Kd.V_drew));exact (Kd.V_mono (Kd.V_far (p := ⟨gb348, 1, none⟩) (Kd.V_far (p := ⟨gb348, 0, none⟩) (Kd.V_mono HO_333000.out (fun k_ hk => (⟨hk, hk.2⟩ : _ ∧ k_ ≠ gb348))) (fun _ hk => hk.2) (.int .i64 t346)) (fun _ hk => hk.2) (.int .i64 t347)) (fun _ h_ => h_.1))));(case side2 => exact (Kd.V_reads' HO_333000.out).2.1);(case side3 => refine (Kd.R_reads' (e := 9) (base := w.heap.size) (ok := fun k_ => True) (n := t343.length) (c := co87) ?_).2.2;exact (by (with_reducible repeat first|apply rA|apply rN|apply rD);exact (Kd.R_mono (Kd.R_far (p := ⟨gb348, 1, none⟩) (Kd.R_far (p := ⟨gb348, 0, none⟩) (Kd.R_types HO345.out BK348.out (by decide)) (fun _ hk => hk.2) (.int .i64 t346)) (fun _ hk => hk.2) (.int .i64 t347)) (fun _ h_ => h_.1))));(case side4 => exact (Kd.R_reads' HO345.out).2.1);rintro e w88 ⟨v350, rfl, ho0, hb⟩;refine ⟨_, rfl, ?_⟩;have HO351 := Aside0.mk (Kd.R_lower (Kd.R_new' ho0 (Kd.R_lt (by (with_reducible repeat first|apply rA|apply rN|apply rD);exact (Kd.R_mono (Kd.R_far (p := ⟨gb348, 1, none⟩) (Kd.R_far (p := ⟨gb348, 0, none⟩) (Kd.R_types HO345.out BK348.out (by decide)) (fun _ hk => hk.2) (.int .i64 t346)) (fun _ hk => hk.2) (.int .i64 t347)) (fun _ h_ => h_.1))))) (below_size eB));replace HO_333000 := Aside0.mk (Kd.V_elder' (by (with_reducible repeat (first|apply Kd.V_alloc|apply Kd.V_drewN|apply Kd.V_drew));exact (Kd.V_mono (Kd.V_far (p := ⟨gb348, 1, none⟩) (Kd.V_far (p := ⟨gb348, 0, none⟩) (Kd.V_mono HO_333000.out (fun k_ hk => (⟨hk, hk.2⟩ : _ ∧ k_ ≠ gb348))) (fun _ hk => hk.2) (.int .i64 t346)) (fun _ hk => hk.2) (.int .i64 t347)) (fun _ h_ => h_.1))) (Kd.R_base ho0) hb);replace HO_341000 := Aside0.mk (Kd.V_elder' (by (with_reducible repeat (first|apply Kd.V_alloc|apply Kd.V_drewN|apply Kd.V_drew));exact (Kd.V_mono (Kd.V_far (p := ⟨gb348, 1, none⟩) (Kd.V_far (p := ⟨gb348, 0, none⟩) (Kd.V_mono HO_341000.out (fun k_ hk => (⟨hk, hk.2⟩ : _ ∧ k_ ≠ gb348))) (fun _ hk => hk.2) (.int .i64 t346)) (fun _ hk => hk.2) (.int .i64 t347)) (fun _ h_ => h_.1))) (Kd.R_base ho0) hb);replace HO345 := Aside0.mk (Kd.R_elder' (by (with_reducible repeat first|apply rA|apply rN|apply rD);exact (Kd.R_mono (Kd.R_far (p := ⟨gb348, 1, none⟩) (Kd.R_far (p := ⟨gb348, 0, none⟩) (Kd.R_types HO345.out BK348.out (by decide)) (fun _ hk => hk.2) (.int .i64 t346)) (fun _ hk => hk.2) (.int .i64 t347)) (fun _ h_ => h_.1))) (Kd.R_base ho0) hb);replace BK324 := lJ BK324 hb;replace BK325 := lJ BK325 hb;replace BK332 := lJ BK332 hb;replace BK333 := lJ BK333 hb;replace BK340 := lJ BK340 hb;replace BK341 := lJ BK341 hb;replace BK348 := lK gb348 27 #[.int .i64 t346, .int .i64 t347] hb;replace HB := sBe HB hb;(try clear hb ho0))|((with_reducible refine gate_dst (N := 16) rfl ?_);refine bE 16 #[.int .i64 0, .int .i64 0] 27 ?_;intro gb354 hg w89 hbox hb;have BK354 := Aside0.mk (hbox);have GW354 := gBe HB hg;have GE354 := gBe HB hg;have NB324_354 := nL BK324 hg;have NB354_324 := nG BK324 hg;have NB325_354 := nL BK325 hg;have NB354_325 := nG BK325 hg;have NB332_354 := nL BK332 hg;have NB354_332 := nG BK332 hg;have NB333_354 := nL BK333 hg;have NB354_333 := nG BK333 hg;have NB340_354 := nL BK340 hg;have NB354_340 := nG BK340 hg;have NB341_354 := nL BK341 hg;have NB354_341 := nG BK341 hg;have NB348_354 := nL BK348 hg;have NB354_348 := nG BK348 hg;replace HO_333000 := vE HO_333000 gb354 hg hb;replace HO_341000 := vE HO_341000 gb354 hg hb;replace HO345 := rL HO345 hb;replace HO351 := rL HO351 hb;replace BK324 := lJ BK324 hb;replace BK325 := lJ BK325 hb;replace BK332 := lJ BK332 hb;replace BK333 := lJ BK333 hb;replace BK340 := lJ BK340 hb;replace BK341 := lJ BK341 hb;replace BK348 := lJ BK348 hb;replace HB := sBe HB hb;clear hb hbox hg;have hnb90 := eq_false NB354_324.out;have hnc90 := eq_false NB324_354.out;have hnb91 := eq_false NB354_325.out;have hnc91 := eq_false NB325_354.out;have hnb92 := eq_false NB354_332.out;have hnc92 := eq_false NB332_354.out;have hnb93 := eq_false NB354_333.out;have hnc93 := eq_false NB333_354.out;have hnb94 := eq_false NB354_340.out;have hnc94 := eq_false NB340_354.out;have hnb95 := eq_false NB354_341.out;have hnc95 := eq_false NB341_354.out;have hnb96 := eq_false NB354_348.out;have hnc96 := eq_false NB348_354.out;have hcz97_0 := hC BK354 0 (.int .i64 0);have hcz97_1 := hC BK354 1 (.int .i64 0);have hfz97_0 := blk_frozen BK354.out 0;have hfz97_1 := blk_frozen BK354.out 1;have hnb98 := eq_false NB324_333.out;have hnc98 := eq_false NB333_324.out;have hnb99 := eq_false NB324_340.out;have hnc99 := eq_false NB340_324.out;have hnb100 := eq_false NB324_341.out;have hnc100 := eq_false NB341_324.out;have hcz101_0 := hC BK324 0 (.slice A0_0 l0_0.length c0_0);have hfz101_0 := blk_frozen BK324.out 0)|((with_reducible refine gate_callee (f := 15) rfl ?_);refine goesL_ (some 62) rfl rfl Try.func15 (by kernel_rfl) rfl #[.agg #[.slice A0_0 l0_0.length c0_0], .slice A2 l2.length c2] rfl mA ?_;(with_reducible refine (textpatch_Apply.calls _ _ l0_0 _ _ l2 t355 t358 t359 _ ?side1 ?side2 ?side3 ?side4 A64.out).mono ?_);(case side1 => exact Kd.C_below HR0_0.out eB);(case side2 => exact HC0_0.out);(case side3 => exact Kd.C_below HR2.out eB);(case side4 => exact HC2.out);rintro e w102 ⟨v356, rfl, ho0, hb⟩;refine ⟨_, rfl, ?_⟩;have HO357 := Aside0.mk (Kd.R_lower (Kd.R_new' (Kd.R_new' ho0 (Kd.R_lt (by (with_reducible repeat first|apply rA|apply rN|apply rD);exact (Kd.R_mono (Kd.R_far (p := ⟨gb354, 1, none⟩) (Kd.R_far (p := ⟨gb354, 0, none⟩) (Kd.R_types HO345.out BK354.out (by decide)) (fun _ hk => hk.2) (.int .i64 t352)) (fun _ hk => hk.2) (.int .i64 t353)) (fun _ h_ => h_.1))))) (Kd.R_lt (by (with_reducible repeat first|apply rA|apply rN|apply rD);exact (Kd.R_mono (Kd.R_far (p := ⟨gb354, 1, none⟩) (Kd.R_far (p := ⟨gb354, 0, none⟩) (Kd.R_types HO351.out BK354.out (by decide)) (fun _ hk => hk.2) (.int .i64 t352)) (fun _ hk => hk.2) (.int .i64 t353)) (fun _ h_ => h_.1))))) (below_size eB));replace HO_333000 := Aside0.mk (Kd.V_elder' (by (with_reducible repeat (first|apply Kd.V_alloc|apply Kd.V_drewN|apply Kd.V_drew));exact (Kd.V_mono (Kd.V_far (p := ⟨gb354, 1, none⟩) (Kd.V_far (p := ⟨gb354, 0, none⟩) (Kd.V_mono HO_333000.out (fun k_ hk => (⟨hk, hk.2⟩ : _ ∧ k_ ≠ gb354))) (fun _ hk => hk.2) (.int .i64 t352)) (fun _ hk => hk.2) (.int .i64 t353)) (fun _ h_ => h_.1))) (Kd.R_base ho0) hb);replace HO_341000 := Aside0.mk (Kd.V_elder' (by (with_reducible repeat (first|apply Kd.V_alloc|apply Kd.V_drewN|apply Kd.V_drew));exact (Kd.V_mono (Kd.V_far (p := ⟨gb354, 1, none⟩) (Kd.V_far (p := ⟨gb354, 0, none⟩) (Kd.V_mono HO_341000.out (fun k_ hk => (⟨hk, hk.2⟩ : _ ∧ k_ ≠ gb354))) (fun _ hk => hk.2) (.int .i64 t352)) (fun _ hk => hk.2) (.int .i64 t353)) (fun _ h_ => h_.1))) (Kd.R_base ho0) hb);replace HO345 := Aside0.mk (Kd.R_elder' (by (with_reducible repeat first|apply rA|apply rN|apply rD);exact (Kd.R_mono (Kd.R_far (p := ⟨gb354, 1, none⟩) (Kd.R_far (p := ⟨gb354, 0, none⟩) (Kd.R_types HO345.out BK354.out (by decide)) (fun _ hk => hk.2) (.int .i64 t352)) (fun _ hk => hk.2) (.int .i64 t353)) (fun _ h_ => h_.1))) (Kd.R_base ho0) hb);replace HO351 := Aside0.mk (Kd.R_elder' (by (with_reducible repeat first|apply rA|apply rN|apply rD);exact (Kd.R_mono (Kd.R_far (p := ⟨gb354, 1, none⟩) (Kd.R_far (p := ⟨gb354, 0, none⟩) (Kd.R_types HO351.out BK354.out (by decide)) (fun _ hk => hk.2) (.int .i64 t352)) (fun _ hk => hk.2) (.int .i64 t353)) (fun _ h_ => h_.1))) (Kd.R_base ho0) hb);replace BK324 := lJ BK324 hb;replace BK325 := lJ BK325 hb;replace BK332 := lJ BK332 hb;replace BK333 := lJ BK333 hb;replace BK340 := lJ BK340 hb;replace BK341 := lJ BK341 hb;replace BK348 := lJ BK348 hb;replace BK354 := lK gb354 27 #[.int .i64 t352, .int .i64 t353] hb;replace HB := sBe HB hb;(try clear hb ho0))|((with_reducible refine gate_dst (N := 18) rfl ?_);refine bE 18 #[.int .i64 0, .int .i64 0] 27 ?_;intro gb360 hg w103 hbox hb;have BK360 := Aside0.mk (hbox);have GW360 := gBe HB hg;have GE360 := gBe HB hg;have NB324_360 := nL BK324 hg;have NB360_324 := nG BK324 hg;have NB325_360 := nL BK325 hg;have NB360_325 := nG BK325 hg;have NB332_360 := nL BK332 hg;have NB360_332 := nG BK332 hg;have NB333_360 := nL BK333 hg;have NB360_333 := nG BK333 hg;have NB340_360 := nL BK340 hg;have NB360_340 := nG BK340 hg;have NB341_360 := nL BK341 hg;have NB360_341 := nG BK341 hg;have NB348_360 := nL BK348 hg;have NB360_348 := nG BK348 hg;have NB354_360 := nL BK354 hg;have NB360_354 := nG BK354 hg;replace HO_333000 := vE HO_333000 gb360 hg hb;replace HO_341000 := vE HO_341000 gb360 hg hb;replace HO345 := rL HO345 hb;replace HO351 := rL HO351 hb;replace HO357 := rL HO357 hb;replace BK324 := lJ BK324 hb;replace BK325 := lJ BK325 hb;replace BK332 := lJ BK332 hb;replace BK333 := lJ BK333 hb;replace BK340 := lJ BK340 hb;replace BK341 := lJ BK341 hb;replace BK348 := lJ BK348 hb;replace BK354 := lJ BK354 hb;replace HB := sBe HB hb;clear hb hbox hg;have hnb104 := eq_false NB360_324.out;have hnc104 := eq_false NB324_360.out;have hnb105 := eq_false NB360_325.out;have hnc105 := eq_false NB325_360.out;have hnb106 := eq_false NB360_332.out;have hnc106 := eq_false NB332_360.out;have hnb107 := eq_false NB360_333.out;have hnc107 := eq_false NB333_360.out;have hnb108 := eq_false NB360_340.out;have hnc108 := eq_false NB340_360.out;have hnb109 := eq_false NB360_341.out;have hnc109 := eq_false NB341_360.out;have hnb110 := eq_false NB360_348.out;have hnc110 := eq_false NB348_360.out;have hnb111 := eq_false NB360_354.out;have hnc111 := eq_false NB354_360.out;have hcz112_0 := hC BK360 0 (.int .i64 0);have hcz112_1 := hC BK360 1 (.int .i64 0);have hfz112_0 := blk_frozen BK360.out 0;have hfz112_1 := blk_frozen BK360.out 1;have hnb113 := eq_false NB340_333.out;have hnc113 := eq_false NB333_340.out;have hnb114 := eq_false NB340_341.out;have hnc114 := eq_false NB341_340.out;have hcz115_0 := hC BK340 0 (.slice Ao28 t334.length co28);have hfz115_0 := blk_frozen BK340.out 0;obtain ⟨Ao116, co116, eo116⟩ := Kd.R_slice HO357.out;subst eo116)|((with_reducible refine gate_callee (f := 15) rfl ?_);refine goesL_ (some 68) rfl rfl Try.func15 (by kernel_rfl) rfl #[.agg #[.slice Ao28 t334.length co28], .slice Ao116 t355.length co116] rfl mA ?_;(with_reducible refine (textpatch_Apply.calls _ _ t334 _ _ t355 t361 t364 t365 _ ?side1 ?side2 ?side3 ?side4 A65.out).mono ?_);(case side1 => refine (Kd.V_reads' (e := 47) (base := w.heap.size) (ok := fun k_ => (((((((k_ ≠ gb324 ∧ (k_ ≠ gb325 ∧ (k_ ≠ gb332 ∧ (k_ ≠ gb333 ∧ (k_ ≠ gb340 ∧ k_ ≠ gb341))))) ∧ some k_ ≠ ob Ao87 t343.length co87) ∧ k_ ≠ gb348) ∧ some k_ ≠ (v350 : Value).ownBlock) ∧ k_ ≠ gb354) ∧ some k_ ≠ ob Ao116 t355.length co116) ∧ k_ ≠ gb360)) (n := t334.length) (c := co28) ?_).2.2;exact (by (with_reducible repeat (first|apply Kd.V_alloc|apply Kd.V_drewN|apply Kd.V_drew));exact (Kd.V_mono (Kd.V_far (p := ⟨gb360, 1, none⟩) (Kd.V_far (p := ⟨gb360, 0, none⟩) (Kd.V_mono HO_341000.out (fun k_ hk => (⟨hk, hk.2⟩ : _ ∧ k_ ≠ gb360))) (fun _ hk => hk.2) (.int .i64 t358)) (fun _ hk => hk.2) (.int .i64 t359)) (fun _ h_ => h_.1))));(case side2 => exact (Kd.V_reads' HO_341000.out).2.1);(case side3 => refine (Kd.R_reads' (e := 9) (base := w.heap.size) (ok := fun k_ => ((True ∧ some k_ ≠ ob Ao87 t343.length co87) ∧ some k_ ≠ (v350 : Value).ownBlock)) (n := t355.length) (c := co116) ?_).2.2;exact (by (with_reducible repeat first|apply rA|apply rN|apply rD);exact (Kd.R_mono (Kd.R_far (p := ⟨gb360, 1, none⟩) (Kd.R_far (p := ⟨gb360, 0, none⟩) (Kd.R_types HO357.out BK360.out (by decide)) (fun _ hk => hk.2) (.int .i64 t358)) (fun _ hk => hk.2) (.int .i64 t359)) (fun _ h_ => h_.1))));(case side4 => exact (Kd.R_reads' HO357.out).2.1);rintro e w117 ⟨v362, rfl, ho0, hb⟩;refine ⟨_, rfl, ?_⟩;have HO363 := Aside0.mk (Kd.R_lower (Kd.R_new' (Kd.R_new' (Kd.R_new' ho0 (Kd.R_lt (by (with_reducible repeat first|apply rA|apply rN|apply rD);exact (Kd.R_mono (Kd.R_far (p := ⟨gb360, 1, none⟩) (Kd.R_far (p := ⟨gb360, 0, none⟩) (Kd.R_types HO345.out BK360.out (by decide)) (fun _ hk => hk.2) (.int .i64 t358)) (fun _ hk => hk.2) (.int .i64 t359)) (fun _ h_ => h_.1))))) (Kd.R_lt (by (with_reducible repeat first|apply rA|apply rN|apply rD);exact (Kd.R_mono (Kd.R_far (p := ⟨gb360, 1, none⟩) (Kd.R_far (p := ⟨gb360, 0, none⟩) (Kd.R_types HO351.out BK360.out (by decide)) (fun _ hk => hk.2) (.int .i64 t358)) (fun _ hk => hk.2) (.int .i64 t359)) (fun _ h_ => h_.1))))) (Kd.R_lt (by (with_reducible repeat first|apply rA|apply rN|apply rD);exact (Kd.R_mono (Kd.R_far (p := ⟨gb360, 1, none⟩) (Kd.R_far (p := ⟨gb360, 0, none⟩) (Kd.R_types HO357.out BK360.out (by decide)) (fun _ hk => hk.2) (.int .i64 t358)) (fun _ hk => hk.2) (.int .i64 t359)) (fun _ h_ => h_.1))))) (below_size eB));replace HO_333000 := Aside0.mk (Kd.V_elder' (by (with_reducible repeat (first|apply Kd.V_alloc|apply Kd.V_drewN|apply Kd.V_drew));exact (Kd.V_mono (Kd.V_far (p := ⟨gb360, 1, none⟩) (Kd.V_far (p := ⟨gb360, 0, none⟩) (Kd.V_mono HO_333000.out (fun k_ hk => (⟨hk, hk.2⟩ : _ ∧ k_ ≠ gb360))) (fun _ hk => hk.2) (.int .i64 t358)) (fun _ hk => hk.2) (.int .i64 t359)) (fun _ h_ => h_.1))) (Kd.R_base ho0) hb);replace HO_341000 := Aside0.mk (Kd.V_elder' (by (with_reducible repeat (first|apply Kd.V_alloc|apply Kd.V_drewN|apply Kd.V_drew));exact (Kd.V_mono (Kd.V_far (p := ⟨gb360, 1, none⟩) (Kd.V_far (p := ⟨gb360, 0, none⟩) (Kd.V_mono HO_341000.out (fun k_ hk => (⟨hk, hk.2⟩ : _ ∧ k_ ≠ gb360))) (fun _ hk => hk.2) (.int .i64 t358)) (fun _ hk => hk.2) (.int .i64 t359)) (fun _ h_ => h_.1))) (Kd.R_base ho0) hb);replace HO345 := Aside0.mk (Kd.R_elder' (by (with_reducible repeat first|apply rA|apply rN|apply rD);exact (Kd.R_mono (Kd.R_far (p := ⟨gb360, 1, none⟩) (Kd.R_far (p := ⟨gb360, 0, none⟩) (Kd.R_types HO345.out BK360.out (by decide)) (fun _ hk => hk.2) (.int .i64 t358)) (fun _ hk => hk.2) (.int .i64 t359)) (fun _ h_ => h_.1))) (Kd.R_base ho0) hb);replace HO351 := Aside0.mk (Kd.R_elder' (by (with_reducible repeat first|apply rA|apply rN|apply rD);exact (Kd.R_mono (Kd.R_far (p := ⟨gb360, 1, none⟩) (Kd.R_far (p := ⟨gb360, 0, none⟩) (Kd.R_types HO351.out BK360.out (by decide)) (fun _ hk => hk.2) (.int .i64 t358)) (fun _ hk => hk.2) (.int .i64 t359)) (fun _ h_ => h_.1))) (Kd.R_base ho0) hb);replace HO357 := Aside0.mk (Kd.R_elder' (by (with_reducible repeat first|apply rA|apply rN|apply rD);exact (Kd.R_mono (Kd.R_far (p := ⟨gb360, 1, none⟩) (Kd.R_far (p := ⟨gb360, 0, none⟩) (Kd.R_types HO357.out BK360.out (by decide)) (fun _ hk => hk.2) (.int .i64 t358)) (fun _ hk => hk.2) (.int .i64 t359)) (fun _ h_ => h_.1))) (Kd.R_base ho0) hb);replace BK324 := lJ BK324 hb;replace BK325 := lJ BK325 hb;replace BK332 := lJ BK332 hb;replace BK333 := lJ BK333 hb;replace BK340 := lJ BK340 hb;replace BK341 := lJ BK341 hb;replace BK348 := lJ BK348 hb;replace BK354 := lJ BK354 hb;replace BK360 := lK gb360 27 #[.int .i64 t358, .int .i64 t359] hb;replace HB := sBe HB hb;(try clear hb ho0))|((with_reducible refine gate_dst (N := 20) rfl ?_);refine bE 20 #[.int .i64 0, .int .i64 0] 27 ?_;intro gb366 hg w118 hbox hb;have BK366 := Aside0.mk (hbox);have GW366 := gBe HB hg;have GE366 := gBe HB hg;have NB324_366 := nL BK324 hg;have NB366_324 := nG BK324 hg;have NB325_366 := nL BK325 hg;have NB366_325 := nG BK325 hg;have NB332_366 := nL BK332 hg;have NB366_332 := nG BK332 hg;have NB333_366 := nL BK333 hg;have NB366_333 := nG BK333 hg;have NB340_366 := nL BK340 hg;have NB366_340 := nG BK340 hg;have NB341_366 := nL BK341 hg;have NB366_341 := nG BK341 hg;have NB348_366 := nL BK348 hg;have NB366_348 := nG BK348 hg;have NB354_366 := nL BK354 hg;have NB366_354 := nG BK354 hg;have NB360_366 := nL BK360 hg;have NB366_360 := nG BK360 hg;replace HO_333000 := vE HO_333000 gb366 hg hb;replace HO_341000 := vE HO_341000 gb366 hg hb;replace HO345 := rL HO345 hb;replace HO351 := rL HO351 hb;replace HO357 := rL HO357 hb;replace HO363 := rL HO363 hb;replace BK324 := lJ BK324 hb;replace BK325 := lJ BK325 hb;replace BK332 := lJ BK332 hb;replace BK333 := lJ BK333 hb;replace BK340 := lJ BK340 hb;replace BK341 := lJ BK341 hb;replace BK348 := lJ BK348 hb;replace BK354 := lJ BK354 hb;replace BK360 := lJ BK360 hb;replace HB := sBe HB hb;clear hb hbox hg;have hnb119 := eq_false NB366_324.out;have hnc119 := eq_false NB324_366.out;have hnb120 := eq_false NB366_325.out;have hnc120 := eq_false NB325_366.out;have hnb121 := eq_false NB366_332.out;have hnc121 := eq_false NB332_366.out;have hnb122 := eq_false NB366_333.out;have hnc122 := eq_false NB333_366.out;have hnb123 := eq_false NB366_340.out;have hnc123 := eq_false NB340_366.out;have hnb124 := eq_false NB366_341.out;have hnc124 := eq_false NB341_366.out;have hnb125 := eq_false NB366_348.out;have hnc125 := eq_false NB348_366.out;have hnb126 := eq_false NB366_354.out;have hnc126 := eq_false NB354_366.out;have hnb127 := eq_false NB366_360.out;have hnc127 := eq_false NB360_366.out;have hcz128_0 := hC BK366 0 (.int .i64 0);have hcz128_1 := hC BK366 1 (.int .i64 0);have hfz128_0 := blk_frozen BK366.out 0;have hfz128_1 := blk_frozen BK366.out 1))
          (try simp only [Act.put, sA, sB, sC])
          go_cut [92] (fun v92 wc => ∃ (kq : Nat) (x92_65 : Bool), v92 = .bool x92_65 ∧ Aside0 (changeforgelaw1_CommuteRebases.j1 kq t349 t361 x92_65 t352 t353 t364 t365 = some r) ∧ Aside0 (kq ≤ kj5) ∧ Aside0 (Kd.R Kd.string 9 wc w.heap.size (fun k_ => some k_ ≠ (v362 : Value).ownBlock) v350 t349) ∧ Aside0 (Kd.R Kd.string 9 wc w.heap.size (fun k_ => some k_ ≠ (v350 : Value).ownBlock) v362 t361) ∧ Aside0 (Kd.V k47 47 wc w.heap.size (fun k_ => some k_ ≠ (v350 : Value).ownBlock ∧ some k_ ≠ (v362 : Value).ownBlock ∧ k_ ≠ gb324 ∧ k_ ≠ gb325 ∧ k_ ≠ gb332 ∧ k_ ≠ gb333 ∧ k_ ≠ gb340 ∧ k_ ≠ gb341 ∧ k_ ≠ gb348 ∧ k_ ≠ gb354 ∧ k_ ≠ gb360 ∧ k_ ≠ gb366) (.slice Ao15 t326.length co15) t326) ∧ Aside0 (Kd.V k47 47 wc w.heap.size (fun k_ => some k_ ≠ (v350 : Value).ownBlock ∧ some k_ ≠ (v362 : Value).ownBlock ∧ k_ ≠ gb324 ∧ k_ ≠ gb325 ∧ k_ ≠ gb332 ∧ k_ ≠ gb333 ∧ k_ ≠ gb340 ∧ k_ ≠ gb341 ∧ k_ ≠ gb348 ∧ k_ ≠ gb354 ∧ k_ ≠ gb360 ∧ k_ ≠ gb366) (.slice Ao28 t334.length co28) t334) ∧ Aside0 (wc.heap[gb324]? = some (.cells #[(.slice A0_0 l0_0.length c0_0)] 24 (0, 0))) ∧ Aside0 (wc.heap[gb325]? = some (.cells #[(.slice A1_0 l1_0.length c1_0)] 24 (0, 0))) ∧ Aside0 (wc.heap[gb332]? = some (.cells #[(.slice Ao15 t326.length co15)] 24 (0, 0))) ∧ Aside0 (wc.heap[gb333]? = some (.cells #[.int .i64 t330, .int .i64 t331] 27 (0, 0))) ∧ Aside0 (wc.heap[gb340]? = some (.cells #[(.slice Ao28 t334.length co28)] 24 (0, 0))) ∧ Aside0 (wc.heap[gb341]? = some (.cells #[.int .i64 t338, .int .i64 t339] 27 (0, 0))) ∧ Aside0 (wc.heap[gb348]? = some (.cells #[.int .i64 t346, .int .i64 t347] 27 (0, 0))) ∧ Aside0 (wc.heap[gb354]? = some (.cells #[.int .i64 t352, .int .i64 t353] 27 (0, 0))) ∧ Aside0 (wc.heap[gb360]? = some (.cells #[.int .i64 t358, .int .i64 t359] 27 (0, 0))) ∧ Aside0 (wc.heap[gb366]? = some (.cells #[.int .i64 t364, .int .i64 t365] 27 (0, 0))) ∧ Aside0 (Below w.heap.size w wc))
          case first =>
            have H := HC66.out;clear HC66
            by_cases c129 : t329 = true
            · subst c129;have H1 : (if t346 = 0 then (if t358 = 0 then (if t352 = 10 then (changeforgelaw1_CommuteRebases.j1 kj5 t349 t361 true t352 t353 t364 t365) else (changeforgelaw1_CommuteRebases.j1 kj5 t349 t361 (t364 == 10) t352 t353 t364 t365)) else (changeforgelaw1_CommuteRebases.j1 kj5 t349 t361 true t352 t353 t364 t365)) else (changeforgelaw1_CommuteRebases.j1 kj5 t349 t361 true t352 t353 t364 t365)) = some r := (by rw [if_pos rfl] at H;exact H);clear H;have H := H1;clear H1
              by_cases c130 : t346 = 0
              · rw [if_pos c130] at H;have c130b0 : (t346 == 0) = true := beq_iff_eq.mpr c130;have c130b1 : (t346 != 0) = false := bne_eq_false_iff_eq.mpr c130;clear c130
                (first|rw [c130b0]|(simp only [i64_w, i32_w];rw [c130b0])|skip)
                have hnb133 := eq_false NB348_324.out;have hnc133 := eq_false NB324_348.out;have hnb134 := eq_false NB348_325.out;have hnc134 := eq_false NB325_348.out;have hnb135 := eq_false NB348_332.out;have hnc135 := eq_false NB332_348.out;have hnb136 := eq_false NB348_333.out;have hnc136 := eq_false NB333_348.out;have hnb137 := eq_false NB348_340.out;have hnc137 := eq_false NB340_348.out;have hnb138 := eq_false NB348_341.out;have hnc138 := eq_false NB341_348.out;have hnb139 := eq_false NB348_354.out;have hnc139 := eq_false NB354_348.out;have hnb140 := eq_false NB348_360.out;have hnc140 := eq_false NB360_348.out;have hnb141 := eq_false NB348_366.out;have hnc141 := eq_false NB366_348.out;have hcz142_0 := hC BK348 0 (.int .i64 t346);have hcz142_1 := hC BK348 1 (.int .i64 t347);have hfz142_0 := blk_frozen BK348.out 0;have hfz142_1 := blk_frozen BK348.out 1;have hnb143 := eq_false NB360_324.out;have hnc143 := eq_false NB324_360.out;have hnb144 := eq_false NB360_325.out;have hnc144 := eq_false NB325_360.out;have hnb145 := eq_false NB360_332.out;have hnc145 := eq_false NB332_360.out;have hnb146 := eq_false NB360_333.out;have hnc146 := eq_false NB333_360.out;have hnb147 := eq_false NB360_340.out;have hnc147 := eq_false NB340_360.out;have hnb148 := eq_false NB360_341.out;have hnc148 := eq_false NB341_360.out;have hnb149 := eq_false NB360_354.out;have hnc149 := eq_false NB354_360.out;have hnb150 := eq_false NB360_366.out;have hnc150 := eq_false NB366_360.out;have hcz151_0 := hC BK360 0 (.int .i64 t358);have hcz151_1 := hC BK360 1 (.int .i64 t359);have hfz151_0 := blk_frozen BK360.out 0;have hfz151_1 := blk_frozen BK360.out 1
                by_cases c131 : t358 = 0
                · rw [if_pos c131] at H;have c131b0 : (t358 == 0) = true := beq_iff_eq.mpr c131;have c131b1 : (t358 != 0) = false := bne_eq_false_iff_eq.mpr c131;clear c131;have hnb152 := eq_false NB354_324.out;have hnc152 := eq_false NB324_354.out;have hnb153 := eq_false NB354_325.out;have hnc153 := eq_false NB325_354.out;have hnb154 := eq_false NB354_332.out;have hnc154 := eq_false NB332_354.out;have hnb155 := eq_false NB354_333.out;have hnc155 := eq_false NB333_354.out;have hnb156 := eq_false NB354_340.out;have hnc156 := eq_false NB340_354.out;have hnb157 := eq_false NB354_341.out;have hnc157 := eq_false NB341_354.out;have hnb158 := eq_false NB354_366.out;have hnc158 := eq_false NB366_354.out;have hcz159_0 := hC BK354 0 (.int .i64 t352);have hcz159_1 := hC BK354 1 (.int .i64 t353);have hfz159_0 := blk_frozen BK354.out 0;have hfz159_1 := blk_frozen BK354.out 1
                  by_cases c132 : t352 = 10
                  · rw [if_pos c132] at H;have c132b0 : (t352 == 10) = true := beq_iff_eq.mpr c132;have c132b1 : (t352 != 10) = false := bne_eq_false_iff_eq.mpr c132;clear c132;have H' := Aside0.mk H;clear H
                    go_wp2
                    go_meet
                    case rel => exact ⟨_, (true), (by first|rfl|(simp only [i64_w, i32_w];done)|(simp only [i64_w, i32_w];rfl)|(simp;done)|(simp [*];done)), H', ⟨by have := HJ5.out;first|omega|exact Nat.le_refl _⟩, ⟨by (with_reducible repeat first|apply rA|apply rN|apply rD);exact fR (Kd.R_types HO351.out BK366.out (by decide))⟩, ⟨by (with_reducible repeat first|apply rA|apply rN|apply rD);exact fR (Kd.R_types HO363.out BK366.out (by decide))⟩, ⟨by (with_reducible repeat (first|apply Kd.V_alloc|apply Kd.V_drewN|apply Kd.V_drew));exact fV HO_333000.out⟩, ⟨by (with_reducible repeat (first|apply Kd.V_alloc|apply Kd.V_drewN|apply Kd.V_drew));exact fV HO_341000.out⟩, ⟨kK⟩, ⟨kK⟩, ⟨kK⟩, ⟨kK⟩, ⟨kK⟩, ⟨kK⟩, ⟨kK⟩, ⟨kK⟩, ⟨kK⟩, ⟨kK⟩, ⟨eB⟩⟩
                  · rw [if_neg c132] at H;have c132b0 : (t352 == 10) = false := beq_eq_false_iff_ne.mpr c132;have c132b1 : (t352 != 10) = true := bne_iff_ne.mpr c132;have H' := Aside0.mk H;clear H;have hnb187 := eq_false NB366_324.out;have hnc187 := eq_false NB324_366.out;have hnb188 := eq_false NB366_325.out;have hnc188 := eq_false NB325_366.out;have hnb189 := eq_false NB366_332.out;have hnc189 := eq_false NB332_366.out;have hnb190 := eq_false NB366_333.out;have hnc190 := eq_false NB333_366.out;have hnb191 := eq_false NB366_340.out;have hnc191 := eq_false NB340_366.out;have hnb192 := eq_false NB366_341.out;have hnc192 := eq_false NB341_366.out;have hcz193_0 := hC BK366 0 (.int .i64 0);have hcz193_1 := hC BK366 1 (.int .i64 0);have hfz193_0 := blk_frozen BK366.out 0;have hfz193_1 := blk_frozen BK366.out 1
                    go_wp2
                    go_meet
                    case rel => exact ⟨_, ((t364 == 10)), (by first|rfl|(simp only [i64_w, i32_w];done)|(simp only [i64_w, i32_w];rfl)|(simp;done)|(simp [*];done)), H', ⟨by have := HJ5.out;first|omega|exact Nat.le_refl _⟩, ⟨by (with_reducible repeat first|apply rA|apply rN|apply rD);exact fR (Kd.R_types HO351.out BK366.out (by decide))⟩, ⟨by (with_reducible repeat first|apply rA|apply rN|apply rD);exact fR (Kd.R_types HO363.out BK366.out (by decide))⟩, ⟨by (with_reducible repeat (first|apply Kd.V_alloc|apply Kd.V_drewN|apply Kd.V_drew));exact fV HO_333000.out⟩, ⟨by (with_reducible repeat (first|apply Kd.V_alloc|apply Kd.V_drewN|apply Kd.V_drew));exact fV HO_341000.out⟩, ⟨kK⟩, ⟨kK⟩, ⟨kK⟩, ⟨kK⟩, ⟨kK⟩, ⟨kK⟩, ⟨kK⟩, ⟨kK⟩, ⟨kK⟩, ⟨kK⟩, ⟨eB⟩⟩
                · rw [if_neg c131] at H;have c131b0 : (t358 == 0) = false := beq_eq_false_iff_ne.mpr c131;have c131b1 : (t358 != 0) = true := bne_iff_ne.mpr c131;have H' := Aside0.mk H;clear H
                  go_wp2
                  go_meet
                  case rel => exact ⟨_, (true), (by first|rfl|(simp only [i64_w, i32_w];done)|(simp only [i64_w, i32_w];rfl)|(simp;done)|(simp [*];done)), H', ⟨by have := HJ5.out;first|omega|exact Nat.le_refl _⟩, ⟨by (with_reducible repeat first|apply rA|apply rN|apply rD);exact fR (Kd.R_types HO351.out BK366.out (by decide))⟩, ⟨by (with_reducible repeat first|apply rA|apply rN|apply rD);exact fR (Kd.R_types HO363.out BK366.out (by decide))⟩, ⟨by (with_reducible repeat (first|apply Kd.V_alloc|apply Kd.V_drewN|apply Kd.V_drew));exact fV HO_333000.out⟩, ⟨by (with_reducible repeat (first|apply Kd.V_alloc|apply Kd.V_drewN|apply Kd.V_drew));exact fV HO_341000.out⟩, ⟨kK⟩, ⟨kK⟩, ⟨kK⟩, ⟨kK⟩, ⟨kK⟩, ⟨kK⟩, ⟨kK⟩, ⟨kK⟩, ⟨kK⟩, ⟨kK⟩, ⟨eB⟩⟩
              · rw [if_neg c130] at H;have c130b0 : (t346 == 0) = false := beq_eq_false_iff_ne.mpr c130;have c130b1 : (t346 != 0) = true := bne_iff_ne.mpr c130
                (first|rw [c130b0]|(simp only [i64_w, i32_w];rw [c130b0])|skip)
                have H' := Aside0.mk H;clear H;have hnb213 := eq_false NB348_324.out;have hnc213 := eq_false NB324_348.out;have hnb214 := eq_false NB348_325.out;have hnc214 := eq_false NB325_348.out;have hnb215 := eq_false NB348_332.out;have hnc215 := eq_false NB332_348.out;have hnb216 := eq_false NB348_333.out;have hnc216 := eq_false NB333_348.out;have hnb217 := eq_false NB348_340.out;have hnc217 := eq_false NB340_348.out;have hnb218 := eq_false NB348_341.out;have hnc218 := eq_false NB341_348.out;have hnb219 := eq_false NB348_354.out;have hnc219 := eq_false NB354_348.out;have hnb220 := eq_false NB348_360.out;have hnc220 := eq_false NB360_348.out;have hnb221 := eq_false NB348_366.out;have hnc221 := eq_false NB366_348.out;have hcz222_0 := hC BK348 0 (.int .i64 t346);have hcz222_1 := hC BK348 1 (.int .i64 t347);have hfz222_0 := blk_frozen BK348.out 0;have hfz222_1 := blk_frozen BK348.out 1
                go_wp2
                go_meet
                case rel => exact ⟨_, (true), (by first|rfl|(simp only [i64_w, i32_w];done)|(simp only [i64_w, i32_w];rfl)|(simp;done)|(simp [*];done)), H', ⟨by have := HJ5.out;first|omega|exact Nat.le_refl _⟩, ⟨by (with_reducible repeat first|apply rA|apply rN|apply rD);exact fR (Kd.R_types HO351.out BK366.out (by decide))⟩, ⟨by (with_reducible repeat first|apply rA|apply rN|apply rD);exact fR (Kd.R_types HO363.out BK366.out (by decide))⟩, ⟨by (with_reducible repeat (first|apply Kd.V_alloc|apply Kd.V_drewN|apply Kd.V_drew));exact fV HO_333000.out⟩, ⟨by (with_reducible repeat (first|apply Kd.V_alloc|apply Kd.V_drewN|apply Kd.V_drew));exact fV HO_341000.out⟩, ⟨kK⟩, ⟨kK⟩, ⟨kK⟩, ⟨kK⟩, ⟨kK⟩, ⟨kK⟩, ⟨kK⟩, ⟨kK⟩, ⟨kK⟩, ⟨kK⟩, ⟨eB⟩⟩
            · replace c129 := Bool.eq_false_iff.mpr c129;subst c129;have H1 : (changeforgelaw1_CommuteRebases.j1 kj5 t349 t361 true t352 t353 t364 t365) = some r := (by rw [if_neg (show ¬ (false = true) by decide)] at H;exact H);clear H;have H := H1;clear H1;have H' := Aside0.mk H;clear H
              go_wp2
              go_meet
              case rel => exact ⟨_, (true), (by first|rfl|(simp only [i64_w, i32_w];done)|(simp only [i64_w, i32_w];rfl)|(simp;done)|(simp [*];done)), H', ⟨by have := HJ5.out;first|omega|exact Nat.le_refl _⟩, ⟨by (with_reducible repeat first|apply rA|apply rN|apply rD);exact fR (Kd.R_types HO351.out BK366.out (by decide))⟩, ⟨by (with_reducible repeat first|apply rA|apply rN|apply rD);exact fR (Kd.R_types HO363.out BK366.out (by decide))⟩, ⟨by (with_reducible repeat (first|apply Kd.V_alloc|apply Kd.V_drewN|apply Kd.V_drew));exact fV HO_333000.out⟩, ⟨by (with_reducible repeat (first|apply Kd.V_alloc|apply Kd.V_drewN|apply Kd.V_drew));exact fV HO_341000.out⟩, ⟨kK⟩, ⟨kK⟩, ⟨kK⟩, ⟨kK⟩, ⟨kK⟩, ⟨kK⟩, ⟨kK⟩, ⟨kK⟩, ⟨kK⟩, ⟨kK⟩, ⟨eB⟩⟩
          case rest =>
            clear HC66
            try clear c1
            try clear c2
            try clear p2
            try clear c3
            try clear c4
            try clear c5
            try clear c6
            try clear c7
            try clear c8
            try clear c9
            try clear c10
            try clear c11
            try clear c12
            try clear c13
            try clear c14
            try clear c15
            try clear c16
            try clear c17
            try clear c18
            try clear c19
            try clear c20
            try clear c21
            try clear c22
            try clear c28
            try clear c29
            try clear c30
            try clear c31
            try clear c32
            try clear c33
            try clear c35
            try clear c36
            try clear c37
            try clear c38
            try clear c40
            try clear c40b0
            try clear c40b1
            try clear c41
            try clear c42
            try clear c43
            try clear c44
            try clear c45
            try clear c47
            try clear c48
            try clear c49
            try clear c50
            try clear c52
            try clear c53
            try clear c54
            try clear c55
            try clear c56
            try clear c58
            try clear c61
            try clear c61b0
            try clear c61b1
            try clear c61b2
            try clear c67
            try clear c68
            try clear c69
            try clear c70
            try clear c71
            try clear c75
            try clear c76
            try clear c77
            try clear c78
            try clear c79
            try clear c80
            try clear c82
            try clear c83
            try clear c84
            try clear c85
            try clear c90
            try clear c91
            try clear c92
            try clear c93
            try clear c94
            try clear c95
            try clear c96
            try clear c98
            try clear c99
            try clear c100
            try clear c104
            try clear c105
            try clear c106
            try clear c107
            try clear c108
            try clear c109
            try clear c110
            try clear c111
            try clear c113
            try clear c114
            try clear c119
            try clear c120
            try clear c121
            try clear c122
            try clear c123
            try clear c124
            try clear c125
            try clear c126
            try clear c127
            try clear c129
            try clear c130
            try clear c130b0
            try clear c130b1
            try clear c131
            try clear c131b0
            try clear c131b1
            try clear c132
            try clear c132b0
            try clear c132b1
            try clear c133
            try clear c134
            try clear c135
            try clear c136
            try clear c137
            try clear c138
            try clear c139
            try clear c140
            try clear c141
            try clear c143
            try clear c144
            try clear c145
            try clear c146
            try clear c147
            try clear c148
            try clear c149
            try clear c150
            try clear c152
            try clear c153
            try clear c154
            try clear c155
            try clear c156
            try clear c157
            try clear c158
            try clear c160
            try clear c161
            try clear c162
            try clear c163
            try clear c164
            try clear c165
            try clear c166
            try clear c167
            try clear c168
            try clear c170
            try clear c171
            try clear c172
            try clear c173
            try clear c174
            try clear c175
            try clear c176
            try clear c177
            try clear c179
            try clear c180
            try clear c181
            try clear c182
            try clear c183
            try clear c184
            try clear c185
            try clear c187
            try clear c188
            try clear c189
            try clear c190
            try clear c191
            try clear c192
            try clear c194
            try clear c195
            try clear c196
            try clear c197
            try clear c198
            try clear c199
            try clear c200
            try clear c201
            try clear c202
            try clear c204
            try clear c205
            try clear c206
            try clear c207
            try clear c208
            try clear c209
            try clear c210
            try clear c211
            try clear c213
            try clear c214
            try clear c215
            try clear c216
            try clear c217
            try clear c218
            try clear c219
            try clear c220
            try clear c221
            try clear hcz101_0
            try clear hcz10_0
            try clear hcz112_0
            try clear hcz112_1
            try clear hcz115_0
            try clear hcz11_0
            try clear hcz128_0
            try clear hcz128_1
            try clear hcz142_0
            try clear hcz142_1
            try clear hcz151_0
            try clear hcz151_1
            try clear hcz159_0
            try clear hcz159_1
            try clear hcz169_0
            try clear hcz169_1
            try clear hcz178_0
            try clear hcz178_1
            try clear hcz186_0
            try clear hcz186_1
            try clear hcz193_0
            try clear hcz193_1
            try clear hcz19_0
            try clear hcz203_0
            try clear hcz203_1
            try clear hcz212_0
            try clear hcz212_1
            try clear hcz222_0
            try clear hcz222_1
            try clear hcz22_0
            try clear hcz22_1
            try clear hcz23_0
            try clear hcz24_0
            try clear hcz34_0
            try clear hcz39_0
            try clear hcz39_1
            try clear hcz46_0
            try clear hcz46_1
            try clear hcz51_0
            try clear hcz51_1
            try clear hcz57_0
            try clear hcz57_1
            try clear hcz72_0
            try clear hcz81_0
            try clear hcz81_1
            try clear hcz86_0
            try clear hcz97_0
            try clear hcz97_1
            try clear hfz101_0
            try clear hfz10_0
            try clear hfz112_0
            try clear hfz112_1
            try clear hfz115_0
            try clear hfz11_0
            try clear hfz128_0
            try clear hfz128_1
            try clear hfz142_0
            try clear hfz142_1
            try clear hfz151_0
            try clear hfz151_1
            try clear hfz159_0
            try clear hfz159_1
            try clear hfz169_0
            try clear hfz169_1
            try clear hfz178_0
            try clear hfz178_1
            try clear hfz186_0
            try clear hfz186_1
            try clear hfz193_0
            try clear hfz193_1
            try clear hfz19_0
            try clear hfz203_0
            try clear hfz203_1
            try clear hfz212_0
            try clear hfz212_1
            try clear hfz222_0
            try clear hfz222_1
            try clear hfz22_0
            try clear hfz22_1
            try clear hfz23_0
            try clear hfz24_0
            try clear hfz34_0
            try clear hfz39_0
            try clear hfz39_1
            try clear hfz46_0
            try clear hfz46_1
            try clear hfz51_0
            try clear hfz51_1
            try clear hfz57_0
            try clear hfz57_1
            try clear hfz72_0
            try clear hfz81_0
            try clear hfz81_1
            try clear hfz86_0
            try clear hfz97_0
            try clear hfz97_1
            try clear p2
            obtain ⟨kq, x92_65, rfl, HA, HJ65, HO_15, HO_19, HO_333000, HO_341000, BK324, BK325, BK332, BK333, BK340, BK341, BK348, BK354, BK360, BK366, HB⟩ := hcut
            cases kq with
            | zero => exact absurd HA.out (by simp [changeforgelaw1_CommuteRebases.j1])
            | succ kj65 =>
              have H := HA.out;clear HA;simp only [changeforgelaw1_CommuteRebases.j1] at H
              by_cases c223 : x92_65 = true
              · subst c223;have H1 : ((changeforgelaw1_exchanged.f kj65).bind fun t367 => (some t367)) = some r := (by rw [if_pos rfl] at H;exact H);clear H;have H := H1;clear H1;replace H := Option.bind_eq_some_iff.mp H;obtain ⟨t367, A2240, H⟩ := H;replace H : (some t367) = some r := H;have A224 := Aside0.mk A2240;clear A2240;obtain rfl := Option.some.inj H
                go_wp2_with (first|((with_reducible refine gate_callee (f := 28) rfl ?_);refine goesL_ (some 93) rfl rfl Try.func28 (by kernel_rfl) rfl #[] rfl mA ?_;(with_reducible refine (changeforgelaw1_exchanged.calls kj65  t367 _ A224.out hrt).mono ?_);rintro e w225 ⟨rfl, hb⟩;refine ⟨_, rfl, ?_⟩;replace HO_15 := rL HO_15 hb;replace HO_19 := rL HO_19 hb;replace HO_333000 := Aside0.mk (Kd.V_below (vK HO_333000) hb);replace HO_341000 := Aside0.mk (Kd.V_below (vK HO_341000) hb);replace BK324 := lJ BK324 hb;replace BK325 := lJ BK325 hb;replace BK332 := lJ BK332 hb;replace BK333 := lJ BK333 hb;replace BK340 := lJ BK340 hb;replace BK341 := lJ BK341 hb;replace BK348 := lJ BK348 hb;replace BK354 := lJ BK354 hb;replace BK360 := lJ BK360 hb;replace BK366 := lJ BK366 hb;replace HB := sBe HB hb;(try clear hb)))
                go_ret
                exact ⟨rW, eB⟩
              · replace c223 := Bool.eq_false_iff.mpr c223;subst c223;have H1 : (if t352 = 0 then (if t364 = 0 then ((changeforgeequal_Strings.f t349 t361).bind fun t368 => (if t368 = true then ((changeforgelaw1_exchanged.f kj65).bind fun t369 => (some t369)) else (some false))) else (some false)) else (some false)) = some r := (by rw [if_neg (show ¬ (false = true) by decide)] at H;exact H);clear H;have H := H1;clear H1
                by_cases c226 : t352 = 0
                · rw [if_pos c226] at H;have c226b0 : (t352 == 0) = true := beq_iff_eq.mpr c226;have c226b1 : (t352 != 0) = false := bne_eq_false_iff_eq.mpr c226;clear c226
                  by_cases c227 : t364 = 0
                  · rw [if_pos c227] at H;have c227b0 : (t364 == 0) = true := beq_iff_eq.mpr c227;have c227b1 : (t364 != 0) = false := bne_eq_false_iff_eq.mpr c227;clear c227;replace H := Option.bind_eq_some_iff.mp H;obtain ⟨t368, A2280, H⟩ := H;replace H : (if t368 = true then ((changeforgelaw1_exchanged.f kj65).bind fun t369 => (some t369)) else (some false)) = some r := H;have A228 := Aside0.mk A2280;clear A2280
                    by_cases c229 : t368 = true
                    · subst c229;have H1 : ((changeforgelaw1_exchanged.f kj65).bind fun t369 => (some t369)) = some r := (by rw [if_pos rfl] at H;exact H);clear H;have H := H1;clear H1;replace H := Option.bind_eq_some_iff.mp H;obtain ⟨t369, A2300, H⟩ := H;replace H : (some t369) = some r := H;have A230 := Aside0.mk A2300;clear A2300;obtain rfl := Option.some.inj H;have hnb231 := eq_false NB354_324.out;have hnc231 := eq_false NB324_354.out;have hnb232 := eq_false NB354_325.out;have hnc232 := eq_false NB325_354.out;have hnb233 := eq_false NB354_332.out;have hnc233 := eq_false NB332_354.out;have hnb234 := eq_false NB354_333.out;have hnc234 := eq_false NB333_354.out;have hnb235 := eq_false NB354_340.out;have hnc235 := eq_false NB340_354.out;have hnb236 := eq_false NB354_341.out;have hnc236 := eq_false NB341_354.out;have hnb237 := eq_false NB354_348.out;have hnc237 := eq_false NB348_354.out;have hnb238 := eq_false NB354_360.out;have hnc238 := eq_false NB360_354.out;have hnb239 := eq_false NB354_366.out;have hnc239 := eq_false NB366_354.out;have hcz240_0 : wc.cell? ⟨gb354, 0, none⟩ = some (.int .i64 t352) := (blk_cell BK354.out 0).trans rfl;have hcz240_1 : wc.cell? ⟨gb354, 1, none⟩ = some (.int .i64 t353) := (blk_cell BK354.out 1).trans rfl;have hfz240_0 := blk_frozen BK354.out 0;have hfz240_1 := blk_frozen BK354.out 1;have hnb241 := eq_false NB366_324.out;have hnc241 := eq_false NB324_366.out;have hnb242 := eq_false NB366_325.out;have hnc242 := eq_false NB325_366.out;have hnb243 := eq_false NB366_332.out;have hnc243 := eq_false NB332_366.out;have hnb244 := eq_false NB366_333.out;have hnc244 := eq_false NB333_366.out;have hnb245 := eq_false NB366_340.out;have hnc245 := eq_false NB340_366.out;have hnb246 := eq_false NB366_341.out;have hnc246 := eq_false NB341_366.out;have hnb247 := eq_false NB366_348.out;have hnc247 := eq_false NB348_366.out;have hnb248 := eq_false NB366_360.out;have hnc248 := eq_false NB360_366.out;have hcz249_0 : wc.cell? ⟨gb366, 0, none⟩ = some (.int .i64 t364) := (blk_cell BK366.out 0).trans rfl;have hcz249_1 : wc.cell? ⟨gb366, 1, none⟩ = some (.int .i64 t365) := (blk_cell BK366.out 1).trans rfl;have hfz249_0 := blk_frozen BK366.out 0;have hfz249_1 := blk_frozen BK366.out 1;obtain ⟨Ao250, co250, eo250⟩ := Kd.R_slice HO_15.out;subst eo250;obtain ⟨Ao251, co251, eo251⟩ := Kd.R_slice HO_19.out;subst eo251
                      go_wp2_with (first|(go_at_call 21;(with_reducible refine (changeforgeequal_Strings.calls _ _ t349 _ _ t361 true _ ?side1 ?side2 ?side3 ?side4 A228.out).mono ?_);(case side1 => repeat (first|exact (Kd.R_reads' HO_15.out).2.2|(with_reducible refine Kd.C_alloc ?_ _)|(with_reducible refine Kd.C_drewN ?_ _)|(with_reducible refine Kd.C_drew ?_)));(case side2 => exact (Kd.R_reads' HO_15.out).2.1);(case side3 => repeat (first|exact (Kd.R_reads' HO_19.out).2.2|(with_reducible refine Kd.C_alloc ?_ _)|(with_reducible refine Kd.C_drewN ?_ _)|(with_reducible refine Kd.C_drew ?_)));(case side4 => exact (Kd.R_reads' HO_19.out).2.1);rintro e w' ⟨rfl, ⟨nd, rfl⟩⟩)|(go_at_call 28;(with_reducible refine (changeforgelaw1_exchanged.calls kj65  t369 _ A230.out hrt).mono ?_);rintro e w252 ⟨rfl, hb⟩;replace HO_15 := rL HO_15 hb;replace HO_19 := rL HO_19 hb;replace HO_333000 := Aside0.mk (Kd.V_below (vK HO_333000) hb);replace HO_341000 := Aside0.mk (Kd.V_below (vK HO_341000) hb);replace BK324 := lJ BK324 hb;replace BK325 := lJ BK325 hb;replace BK332 := lJ BK332 hb;replace BK333 := lJ BK333 hb;replace BK340 := lJ BK340 hb;replace BK341 := lJ BK341 hb;replace BK348 := lJ BK348 hb;replace BK354 := lJ BK354 hb;replace BK360 := lJ BK360 hb;replace BK366 := lJ BK366 hb;replace HB := sBe HB hb;(try clear hb)))
                      go_ret
                      exact ⟨rW, eB⟩
                    · replace c229 := Bool.eq_false_iff.mpr c229;subst c229;have H1 : (some false) = some r := (by rw [if_neg (show ¬ (false = true) by decide)] at H;exact H);clear H;have H := H1;clear H1;obtain rfl := Option.some.inj H;exact absurd hrt (by decide)
                  · rw [if_neg c227] at H;have c227b0 : (t364 == 0) = false := beq_eq_false_iff_ne.mpr c227;have c227b1 : (t364 != 0) = true := bne_iff_ne.mpr c227;obtain rfl := Option.some.inj H;exact absurd hrt (by decide)
                · rw [if_neg c226] at H;have c226b0 : (t352 == 0) = false := beq_eq_false_iff_ne.mpr c226;have c226b1 : (t352 != 0) = true := bne_iff_ne.mpr c226;obtain rfl := Option.some.inj H;exact absurd hrt (by decide)
/-- THE ONE PURE STATEMENT of changeforgelaw1_CommuteRebases: yours. -/
def changeforgelaw1_CommuteRebases.Pure : Prop := ∀ (l0_0 : List (S47)) (l1_0 : List (S47)) (l2 : List ByteArray), l0_0.length ≤ maxLen → (∀ x ∈ l0_0, ((Lit.int .i64 x.f0).wf = true) ∧ ((x.f1.length ≤ maxLen ∧ ∀ yxf1 ∈ x.f1, yxf1.size ≤ maxLen) ∧ ((x.f2.length ≤ maxLen ∧ ∀ yxf2 ∈ x.f2, yxf2.size ≤ maxLen)))) → l1_0.length ≤ maxLen → (∀ x ∈ l1_0, ((Lit.int .i64 x.f0).wf = true) ∧ ((x.f1.length ≤ maxLen ∧ ∀ yxf1 ∈ x.f1, yxf1.size ≤ maxLen) ∧ ((x.f2.length ≤ maxLen ∧ ∀ yxf2 ∈ x.f2, yxf2.size ≤ maxLen)))) → l2.length ≤ maxLen → l2.length * 16 ≤ 140737488351232 → (∀ x ∈ l2, x.size ≤ maxLen) → ∃ k, changeforgelaw1_CommuteRebases.f k l0_0 l1_0 l2 = some true
theorem changeforgelaw1_CommuteRebases.walk (P : changeforgelaw1_CommuteRebases.Pure) (A0_0 : Option Addr) (c0_0 : Nat) (l0_0 : List (S47)) (A1_0 : Option Addr) (c1_0 : Nat) (l1_0 : List (S47)) (A2 : Option Addr) (c2 : Nat) (l2 : List ByteArray) (w : World) (hr0_0 : Kd.C k47 w A0_0 l0_0.length l0_0) (hc0_0 : l0_0.length ≤ c0_0) (hm0_0 : l0_0.length ≤ maxLen) (he0_0 : ∀ x ∈ l0_0, ((Lit.int .i64 x.f0).wf = true) ∧ ((x.f1.length ≤ maxLen ∧ ∀ yxf1 ∈ x.f1, yxf1.size ≤ maxLen) ∧ ((x.f2.length ≤ maxLen ∧ ∀ yxf2 ∈ x.f2, yxf2.size ≤ maxLen)))) (hr1_0 : Kd.C k47 w A1_0 l1_0.length l1_0) (hc1_0 : l1_0.length ≤ c1_0) (hm1_0 : l1_0.length ≤ maxLen) (he1_0 : ∀ x ∈ l1_0, ((Lit.int .i64 x.f0).wf = true) ∧ ((x.f1.length ≤ maxLen ∧ ∀ yxf1 ∈ x.f1, yxf1.size ≤ maxLen) ∧ ((x.f2.length ≤ maxLen ∧ ∀ yxf2 ∈ x.f2, yxf2.size ≤ maxLen)))) (hr2 : Kd.C Kd.string w A2 l2.length l2) (hc2 : l2.length ≤ c2) (hm2 : l2.length ≤ maxLen) (hs2 : l2.length * 16 ≤ 140737488351232) (he2 : ∀ x ∈ l2, x.size ≤ maxLen) :
    Calls Try.prog 13 #[.agg #[.slice A0_0 l0_0.length c0_0], .agg #[.slice A1_0 l1_0.length c1_0], .slice A2 l2.length c2] w fun e w' => e = .returned (.bool true) ∧ Below w.heap.size w w' := by
  obtain ⟨k, h⟩ := P l0_0 l1_0 l2 hm0_0 he0_0 hm1_0 he1_0 hm2 hs2 he2;refine (changeforgelaw1_CommuteRebases.calls k _ _ l0_0 _ _ l1_0 _ _ l2 true w hr0_0 hc0_0 hr1_0 hc1_0 hr2 hc2 h rfl).mono ?_
  rintro e w' ⟨rfl, hd⟩
  exact ⟨rfl, hd⟩

end Go.Proofs.Ytdnnkhogpobjbaa.PQ
