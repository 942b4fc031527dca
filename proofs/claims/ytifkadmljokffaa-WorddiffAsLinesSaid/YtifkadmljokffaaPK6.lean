/- Printed by a program of this session out of the translation: Lean functions for Go functions, and proofs that the Go functions answer the same. -/
import Derived.Test.YtifkadmljokffaaPK0
import Derived.Test.YtifkadmljokffaaPK3
import Derived.Test.YtifkadmljokffaaPK4
import Derived.Test.YtifkadmljokffaaPK5
namespace Go.Proofs.Ytifkadmljokffaa.PK
open Go.RowKit Go.Proofs.Ytifkadmljokffaa.Pre Go.Proofs.YtifkadmljokffaaW.PrintWords Go.Proofs.YtifkadmljokffaaW.PrintLast Go.Proofs.YtifkadmljokffaaW.PrintMore
attribute [local go_sem] max2_int min2_int max_two min_two max_three min_three max_four min_four   -- for this text's walks alone
set_option linter.unusedVariables false
set_option linter.unusedSimpArgs false

/-! ### changeforgelaw1_WorddiffAsLines: function 14 -/
def changeforgelaw1_WorddiffAsLines.j0 : Nat → ByteArray → List (S95) → List ByteArray → Bool → Option (Bool)
  | 0, _, _, _, _ => none
  | k + 1, x0, x9, x12, x56 => if x56 = true then ((changeforgelaw1_split.f).bind fun t168 => (some t168)) else ((changeforgelaw1_rest.f k x0 x9).bind fun bt169 => (if bt169.2 = true then ((changeforgelaw1_together.f x12).bind fun t171 => (if bt169.1.toList = t171.toList then ((changeforgelaw1_split.f).bind fun t172 => (some t172)) else (some false))) else (some false)))
def changeforgelaw1_WorddiffAsLines.f (k : Nat) (a0 : ByteArray) (a1 : ByteArray) : Option (Bool) := (worddiff_Tokens.f a0).bind fun bt141 => ((worddiff_Tokens.f a1).bind fun bt147 => ((worddiff_Highlight.f a0 a1).bind fun bt153 => ((diff_Common.f bt141.1 bt147.1).bind fun bt162 => (if bt141.2.1 = 0 then (if bt147.2.1 = 0 then (if bt153.2.2.1 = 0 then (changeforgelaw1_WorddiffAsLines.j0 k a0 bt153.1 bt162.1 (bt162.2.1 != 0)) else (changeforgelaw1_WorddiffAsLines.j0 k a0 bt153.1 bt162.1 true)) else (changeforgelaw1_WorddiffAsLines.j0 k a0 bt153.1 bt162.1 true)) else (changeforgelaw1_WorddiffAsLines.j0 k a0 bt153.1 bt162.1 true)))))
theorem changeforgelaw1_WorddiffAsLines.mono_l : ∀ k, (∀ y0 y1 y2 y3, LeO (changeforgelaw1_WorddiffAsLines.j0 k y0 y1 y2 y3) (changeforgelaw1_WorddiffAsLines.j0 (k + 1) y0 y1 y2 y3))
  | 0 => fun _ _ _ _ r h => by simp [changeforgelaw1_WorddiffAsLines.j0] at h
  | k + 1 => by
    have ih0 := changeforgelaw1_WorddiffAsLines.mono_l k
    · intro y0 y1 y2 y3
      unfold changeforgelaw1_WorddiffAsLines.j0
      repeat' first
      | (with_reducible exact ih0 _ _ _ _)
      | (with_reducible exact changeforgelaw1_rest.mono _ _ _)
      | (with_reducible exact LeO.refl _)
      | (with_reducible exact LeO.none _)
      | (with_reducible refine LeO.ite ?_ ?_)
      | (with_reducible refine LeO.bind ?_ (fun _ => ?_))
      | exact ih0 _ _ _ _
      | exact changeforgelaw1_rest.mono _ _ _
      | exact LeO.none _
      | refine LeO.ite ?_ ?_
      | refine LeO.bind ?_ (fun _ => ?_)
theorem changeforgelaw1_WorddiffAsLines.mono : ∀ a0 a1 k, LeO (changeforgelaw1_WorddiffAsLines.f k a0 a1) (changeforgelaw1_WorddiffAsLines.f (k + 1) a0 a1) := by
  intro a0 a1 k
  have ih0 := changeforgelaw1_WorddiffAsLines.mono_l k
  unfold changeforgelaw1_WorddiffAsLines.f
  repeat' first
      | (with_reducible exact ih0 _ _ _ _)
      | (with_reducible exact changeforgelaw1_rest.mono _ _ _)
      | (with_reducible exact LeO.refl _)
      | (with_reducible exact LeO.none _)
      | (with_reducible refine LeO.ite ?_ ?_)
      | (with_reducible refine LeO.bind ?_ (fun _ => ?_))
      | exact ih0 _ _ _ _
      | exact changeforgelaw1_rest.mono _ _ _
      | exact LeO.none _
      | refine LeO.ite ?_ ?_
      | refine LeO.bind ?_ (fun _ => ?_)
set_option maxHeartbeats 8000000 in
set_option maxRecDepth 100000 in
theorem changeforgelaw1_WorddiffAsLines.calls (k : Nat) (a0 : ByteArray) (a1 : ByteArray) (r : Bool) (w : World) (h : changeforgelaw1_WorddiffAsLines.f k a0 a1 = some r) (hrt : r = true) :
    Calls Try.prog 14 #[.string a0, .string a1] w fun e w' => e = .returned (.bool r) ∧ Below w.heap.size w w' := by
  have hu24 := Try.underlying24;have HB := Aside0.mk (Below.refl w.heap.size w);have H : ((worddiff_Tokens.f a0).bind fun bt141 => ((worddiff_Tokens.f a1).bind fun bt147 => ((worddiff_Highlight.f a0 a1).bind fun bt153 => ((diff_Common.f bt141.1 bt147.1).bind fun bt162 => (if bt141.2.1 = 0 then (if bt147.2.1 = 0 then (if bt153.2.2.1 = 0 then (changeforgelaw1_WorddiffAsLines.j0 k a0 bt153.1 bt162.1 (bt162.2.1 != 0)) else (changeforgelaw1_WorddiffAsLines.j0 k a0 bt153.1 bt162.1 true)) else (changeforgelaw1_WorddiffAsLines.j0 k a0 bt153.1 bt162.1 true)) else (changeforgelaw1_WorddiffAsLines.j0 k a0 bt153.1 bt162.1 true)))))) = some r := h;clear h;replace H := Option.bind_eq_some_iff.mp H;obtain ⟨⟨t141, t144, t145⟩, A30, H⟩ := H;replace H : ((worddiff_Tokens.f a1).bind fun bt147 => ((worddiff_Highlight.f a0 a1).bind fun bt153 => ((diff_Common.f t141 bt147.1).bind fun bt162 => (if t144 = 0 then (if bt147.2.1 = 0 then (if bt153.2.2.1 = 0 then (changeforgelaw1_WorddiffAsLines.j0 k a0 bt153.1 bt162.1 (bt162.2.1 != 0)) else (changeforgelaw1_WorddiffAsLines.j0 k a0 bt153.1 bt162.1 true)) else (changeforgelaw1_WorddiffAsLines.j0 k a0 bt153.1 bt162.1 true)) else (changeforgelaw1_WorddiffAsLines.j0 k a0 bt153.1 bt162.1 true))))) = some r := H;have A3 := Aside0.mk A30;clear A30;replace H := Option.bind_eq_some_iff.mp H;obtain ⟨⟨t147, t150, t151⟩, A40, H⟩ := H;replace H : ((worddiff_Highlight.f a0 a1).bind fun bt153 => ((diff_Common.f t141 t147).bind fun bt162 => (if t144 = 0 then (if t150 = 0 then (if bt153.2.2.1 = 0 then (changeforgelaw1_WorddiffAsLines.j0 k a0 bt153.1 bt162.1 (bt162.2.1 != 0)) else (changeforgelaw1_WorddiffAsLines.j0 k a0 bt153.1 bt162.1 true)) else (changeforgelaw1_WorddiffAsLines.j0 k a0 bt153.1 bt162.1 true)) else (changeforgelaw1_WorddiffAsLines.j0 k a0 bt153.1 bt162.1 true)))) = some r := H;have A4 := Aside0.mk A40;clear A40;replace H := Option.bind_eq_some_iff.mp H;obtain ⟨⟨t153, t156, t159, t160⟩, A50, H⟩ := H;replace H : ((diff_Common.f t141 t147).bind fun bt162 => (if t144 = 0 then (if t150 = 0 then (if t159 = 0 then (changeforgelaw1_WorddiffAsLines.j0 k a0 t153 bt162.1 (bt162.2.1 != 0)) else (changeforgelaw1_WorddiffAsLines.j0 k a0 t153 bt162.1 true)) else (changeforgelaw1_WorddiffAsLines.j0 k a0 t153 bt162.1 true)) else (changeforgelaw1_WorddiffAsLines.j0 k a0 t153 bt162.1 true))) = some r := H;have A5 := Aside0.mk A50;clear A50;replace H := Option.bind_eq_some_iff.mp H;obtain ⟨⟨t162, t165, t166⟩, A60, H⟩ := H;replace H : (if t144 = 0 then (if t150 = 0 then (if t159 = 0 then (changeforgelaw1_WorddiffAsLines.j0 k a0 t153 t162 (t165 != 0)) else (changeforgelaw1_WorddiffAsLines.j0 k a0 t153 t162 true)) else (changeforgelaw1_WorddiffAsLines.j0 k a0 t153 t162 true)) else (changeforgelaw1_WorddiffAsLines.j0 k a0 t153 t162 true)) = some r := H;have A6 := Aside0.mk A60;clear A60;have HC7 := Aside0.mk H;clear H
  go_enter Try.func14, Try.ntmps14
  go_upto_region 5 with (first|((with_reducible refine gate_callee (f := 31) rfl ?_);refine goesL_ (some 18) rfl rfl Try.func31 (by kernel_rfl) rfl #[.string a0] rfl mA ?_;(with_reducible refine (worddiff_Tokens.calls a0 t141 t144 t145 _ A3.out).mono ?_);rintro e w8 ⟨v142, rfl, ho0, hb⟩;refine ⟨_, rfl, ?_⟩;have HO143 := Aside0.mk (Kd.R_lower ho0 (below_size eB));replace HB := sBe HB hb;(try clear hb ho0))|((with_reducible refine gate_dst (N := 6) rfl ?_);refine bE 6 #[.int .i64 0, .int .i64 0] 24 ?_;intro gb146 hg w9 hbox hb;have BK146 := Aside0.mk (hbox);have GW146 := gBe HB hg;have GE146 := gBe HB hg;replace HO143 := rL HO143 hb;replace HB := sBe HB hb;clear hb hbox hg;have hcz10_0 := hC BK146 0 (.int .i64 0);have hcz10_1 := hC BK146 1 (.int .i64 0);have hfz10_0 := blk_frozen BK146.out 0;have hfz10_1 := blk_frozen BK146.out 1)|((with_reducible refine gate_callee (f := 31) rfl ?_);refine goesL_ (some 23) rfl rfl Try.func31 (by kernel_rfl) rfl #[.string a1] rfl mA ?_;(with_reducible refine (worddiff_Tokens.calls a1 t147 t150 t151 _ A4.out).mono ?_);rintro e w11 ⟨v148, rfl, ho0, hb⟩;refine ⟨_, rfl, ?_⟩;have HO149 := Aside0.mk (Kd.R_lower (Kd.R_new' ho0 (Kd.R_lt (by (with_reducible repeat first|apply rA|apply rN|apply rD);exact (Kd.R_mono (Kd.R_far (p := ⟨gb146, 1, none⟩) (Kd.R_far (p := ⟨gb146, 0, none⟩) (Kd.R_types HO143.out BK146.out (by decide)) (fun _ hk => hk.2) (.int .i64 t144)) (fun _ hk => hk.2) (.int .i64 t145)) (fun _ h_ => h_.1))))) (below_size eB));replace HO143 := Aside0.mk (Kd.R_elder' (by (with_reducible repeat first|apply rA|apply rN|apply rD);exact (Kd.R_mono (Kd.R_far (p := ⟨gb146, 1, none⟩) (Kd.R_far (p := ⟨gb146, 0, none⟩) (Kd.R_types HO143.out BK146.out (by decide)) (fun _ hk => hk.2) (.int .i64 t144)) (fun _ hk => hk.2) (.int .i64 t145)) (fun _ h_ => h_.1))) (Kd.R_base ho0) hb);replace BK146 := lK gb146 24 #[.int .i64 t144, .int .i64 t145] hb;replace HB := sBe HB hb;(try clear hb ho0))|((with_reducible refine gate_dst (N := 8) rfl ?_);refine bE 8 #[.int .i64 0, .int .i64 0] 24 ?_;intro gb152 hg w12 hbox hb;have BK152 := Aside0.mk (hbox);have GW152 := gBe HB hg;have GE152 := gBe HB hg;have NB146_152 := nL BK146 hg;have NB152_146 := nG BK146 hg;replace HO143 := rL HO143 hb;replace HO149 := rL HO149 hb;replace BK146 := lJ BK146 hb;replace HB := sBe HB hb;clear hb hbox hg;have hnb13 := eq_false NB152_146.out;have hnc13 := eq_false NB146_152.out;have hcz14_0 := hC BK152 0 (.int .i64 0);have hcz14_1 := hC BK152 1 (.int .i64 0);have hfz14_0 := blk_frozen BK152.out 0;have hfz14_1 := blk_frozen BK152.out 1)|((with_reducible refine gate_callee (f := 34) rfl ?_);refine goesL_ (some 29) rfl rfl Try.func34 (by kernel_rfl) rfl #[.string a0, .string a1] rfl mA ?_;(with_reducible refine (worddiff_Highlight.calls a0 a1 t153 t156 t159 t160 _ A5.out).mono ?_);rintro e w15 ⟨v154, v157, rfl, ho0, ho1, hb⟩;refine ⟨_, rfl, ?_⟩;have HO155 := Aside0.mk (Kd.R_lower ho0 (below_size eB));have HO158 := Aside0.mk (Kd.R_lower ho1 (below_size eB));replace HO143 := Aside0.mk (Kd.R_below (by (with_reducible repeat first|apply rA|apply rN|apply rD);exact (Kd.R_mono (Kd.R_far (p := ⟨gb152, 1, none⟩) (Kd.R_far (p := ⟨gb152, 0, none⟩) (Kd.R_types HO143.out BK152.out (by decide)) (fun _ hk => hk.2) (.int .i64 t150)) (fun _ hk => hk.2) (.int .i64 t151)) (fun _ h_ => h_.1))) hb);replace HO149 := Aside0.mk (Kd.R_below (by (with_reducible repeat first|apply rA|apply rN|apply rD);exact (Kd.R_mono (Kd.R_far (p := ⟨gb152, 1, none⟩) (Kd.R_far (p := ⟨gb152, 0, none⟩) (Kd.R_types HO149.out BK152.out (by decide)) (fun _ hk => hk.2) (.int .i64 t150)) (fun _ hk => hk.2) (.int .i64 t151)) (fun _ h_ => h_.1))) hb);replace BK146 := lJ BK146 hb;replace BK152 := lK gb152 24 #[.int .i64 t150, .int .i64 t151] hb;replace HB := sBe HB hb;(try clear hb ho0 ho1))|((with_reducible refine gate_dst (N := 11) rfl ?_);refine bE 11 #[.int .i64 0, .int .i64 0] 24 ?_;intro gb161 hg w16 hbox hb;have BK161 := Aside0.mk (hbox);have GW161 := gBe HB hg;have GE161 := gBe HB hg;have NB146_161 := nL BK146 hg;have NB161_146 := nG BK146 hg;have NB152_161 := nL BK152 hg;have NB161_152 := nG BK152 hg;replace HO143 := rL HO143 hb;replace HO149 := rL HO149 hb;replace HO155 := rL HO155 hb;replace HO158 := rL HO158 hb;replace BK146 := lJ BK146 hb;replace BK152 := lJ BK152 hb;replace HB := sBe HB hb;clear hb hbox hg;have hnb17 := eq_false NB161_146.out;have hnc17 := eq_false NB146_161.out;have hnb18 := eq_false NB161_152.out;have hnc18 := eq_false NB152_161.out;have hcz19_0 := hC BK161 0 (.int .i64 0);have hcz19_1 := hC BK161 1 (.int .i64 0);have hfz19_0 := blk_frozen BK161.out 0;have hfz19_1 := blk_frozen BK161.out 1;obtain ⟨Ao20, co20, eo20⟩ := Kd.R_slice HO143.out;subst eo20;obtain ⟨Ao21, co21, eo21⟩ := Kd.R_slice HO149.out;subst eo21)|((with_reducible refine gate_callee (f := 19) rfl ?_);refine goesL_ (some 36) rfl rfl Try.func19 (by kernel_rfl) rfl #[.slice Ao20 t141.length co20, .slice Ao21 t147.length co21] rfl mA ?_;(with_reducible refine (diff_Common.calls _ _ t141 _ _ t147 t162 t165 t166 _ ?side1 ?side2 ?side3 ?side4 A6.out).mono ?_);(case side1 => refine (Kd.R_reads' (e := 9) (base := w.heap.size) (ok := fun k_ => (True ∧ some k_ ≠ ob Ao21 t147.length co21)) (n := t141.length) (c := co20) ?_).2.2;exact (by (with_reducible repeat first|apply rA|apply rN|apply rD);exact (Kd.R_mono (Kd.R_far (p := ⟨gb161, 1, none⟩) (Kd.R_far (p := ⟨gb161, 0, none⟩) (Kd.R_types HO143.out BK161.out (by decide)) (fun _ hk => hk.2) (.int .i64 t159)) (fun _ hk => hk.2) (.int .i64 t160)) (fun _ h_ => h_.1))));(case side2 => exact (Kd.R_reads' HO143.out).2.1);(case side3 => refine (Kd.R_reads' (e := 9) (base := w.heap.size) (ok := fun k_ => (True ∧ some k_ ≠ ob Ao20 t141.length co20)) (n := t147.length) (c := co21) ?_).2.2;exact (by (with_reducible repeat first|apply rA|apply rN|apply rD);exact (Kd.R_mono (Kd.R_far (p := ⟨gb161, 1, none⟩) (Kd.R_far (p := ⟨gb161, 0, none⟩) (Kd.R_types HO149.out BK161.out (by decide)) (fun _ hk => hk.2) (.int .i64 t159)) (fun _ hk => hk.2) (.int .i64 t160)) (fun _ h_ => h_.1))));(case side4 => exact (Kd.R_reads' HO149.out).2.1);rintro e w22 ⟨v163, rfl, ho0, hb⟩;refine ⟨_, rfl, ?_⟩;have HO164 := Aside0.mk (Kd.R_lower (Kd.R_new' (Kd.R_new' ho0 (Kd.R_lt (by (with_reducible repeat first|apply rA|apply rN|apply rD);exact (Kd.R_mono (Kd.R_far (p := ⟨gb161, 1, none⟩) (Kd.R_far (p := ⟨gb161, 0, none⟩) (Kd.R_types HO143.out BK161.out (by decide)) (fun _ hk => hk.2) (.int .i64 t159)) (fun _ hk => hk.2) (.int .i64 t160)) (fun _ h_ => h_.1))))) (Kd.R_lt (by (with_reducible repeat first|apply rA|apply rN|apply rD);exact (Kd.R_mono (Kd.R_far (p := ⟨gb161, 1, none⟩) (Kd.R_far (p := ⟨gb161, 0, none⟩) (Kd.R_types HO149.out BK161.out (by decide)) (fun _ hk => hk.2) (.int .i64 t159)) (fun _ hk => hk.2) (.int .i64 t160)) (fun _ h_ => h_.1))))) (below_size eB));replace HO143 := Aside0.mk (Kd.R_elder' (by (with_reducible repeat first|apply rA|apply rN|apply rD);exact (Kd.R_mono (Kd.R_far (p := ⟨gb161, 1, none⟩) (Kd.R_far (p := ⟨gb161, 0, none⟩) (Kd.R_types HO143.out BK161.out (by decide)) (fun _ hk => hk.2) (.int .i64 t159)) (fun _ hk => hk.2) (.int .i64 t160)) (fun _ h_ => h_.1))) (Kd.R_base ho0) hb);replace HO149 := Aside0.mk (Kd.R_elder' (by (with_reducible repeat first|apply rA|apply rN|apply rD);exact (Kd.R_mono (Kd.R_far (p := ⟨gb161, 1, none⟩) (Kd.R_far (p := ⟨gb161, 0, none⟩) (Kd.R_types HO149.out BK161.out (by decide)) (fun _ hk => hk.2) (.int .i64 t159)) (fun _ hk => hk.2) (.int .i64 t160)) (fun _ h_ => h_.1))) (Kd.R_base ho0) hb);replace HO155 := Aside0.mk (Kd.R_below (by (with_reducible repeat first|apply rA|apply rN|apply rD);exact (Kd.R_mono (Kd.R_far (p := ⟨gb161, 1, none⟩) (Kd.R_far (p := ⟨gb161, 0, none⟩) (Kd.R_types HO155.out BK161.out (by decide)) (fun _ hk => hk.2) (.int .i64 t159)) (fun _ hk => hk.2) (.int .i64 t160)) (fun _ h_ => h_.1))) hb);replace HO158 := Aside0.mk (Kd.R_below (by (with_reducible repeat first|apply rA|apply rN|apply rD);exact (Kd.R_mono (Kd.R_far (p := ⟨gb161, 1, none⟩) (Kd.R_far (p := ⟨gb161, 0, none⟩) (Kd.R_types HO158.out BK161.out (by decide)) (fun _ hk => hk.2) (.int .i64 t159)) (fun _ hk => hk.2) (.int .i64 t160)) (fun _ h_ => h_.1))) hb);replace BK146 := lJ BK146 hb;replace BK152 := lJ BK152 hb;replace BK161 := lK gb161 24 #[.int .i64 t159, .int .i64 t160] hb;replace HB := sBe HB hb;(try clear hb ho0))|((with_reducible refine gate_dst (N := 13) rfl ?_);refine bE 13 #[.int .i64 0, .int .i64 0] 24 ?_;intro gb167 hg w23 hbox hb;have BK167 := Aside0.mk (hbox);have GW167 := gBe HB hg;have GE167 := gBe HB hg;have NB146_167 := nL BK146 hg;have NB167_146 := nG BK146 hg;have NB152_167 := nL BK152 hg;have NB167_152 := nG BK152 hg;have NB161_167 := nL BK161 hg;have NB167_161 := nG BK161 hg;replace HO143 := rL HO143 hb;replace HO149 := rL HO149 hb;replace HO155 := rL HO155 hb;replace HO158 := rL HO158 hb;replace HO164 := rL HO164 hb;replace BK146 := lJ BK146 hb;replace BK152 := lJ BK152 hb;replace BK161 := lJ BK161 hb;replace HB := sBe HB hb;clear hb hbox hg;have hnb24 := eq_false NB167_146.out;have hnc24 := eq_false NB146_167.out;have hnb25 := eq_false NB167_152.out;have hnc25 := eq_false NB152_167.out;have hnb26 := eq_false NB167_161.out;have hnc26 := eq_false NB161_167.out;have hcz27_0 := hC BK167 0 (.int .i64 0);have hcz27_1 := hC BK167 1 (.int .i64 0);have hfz27_0 := blk_frozen BK167.out 0;have hfz27_1 := blk_frozen BK167.out 1))
  (try simp only [Act.put, sA, sB, sC])
  go_cut [56] (fun v56 wc => ∃ (kq : Nat) (x56_6 : Bool), v56 = .bool x56_6 ∧ Aside0 (changeforgelaw1_WorddiffAsLines.j0 kq a0 t153 t162 x56_6 = some r) ∧ Aside0 (kq ≤ k) ∧ Aside0 (Kd.R k95 95 wc w.heap.size (fun _ => True) v154 t153) ∧ Aside0 (Kd.R Kd.string 9 wc w.heap.size (fun _ => True) v163 t162) ∧ Aside0 (wc.heap[gb146]? = some (.cells #[.int .i64 t144, .int .i64 t145] 24 (0, 0))) ∧ Aside0 (wc.heap[gb152]? = some (.cells #[.int .i64 t150, .int .i64 t151] 24 (0, 0))) ∧ Aside0 (wc.heap[gb161]? = some (.cells #[.int .i64 t159, .int .i64 t160] 24 (0, 0))) ∧ Aside0 (wc.heap[gb167]? = some (.cells #[.int .i64 t165, .int .i64 t166] 24 (0, 0))) ∧ Aside0 (Below w.heap.size w wc))
  case first =>
    have H := HC7.out;clear HC7
    by_cases c28 : t144 = 0
    · rw [if_pos c28] at H;have c28b0 : (t144 == 0) = true := beq_iff_eq.mpr c28;have c28b1 : (t144 != 0) = false := bne_eq_false_iff_eq.mpr c28;clear c28
      (first|rw [c28b0]|(simp only [i64_w, i32_w];rw [c28b0])|skip)
      by_cases c29 : t150 = 0
      · rw [if_pos c29] at H;have c29b0 : (t150 == 0) = true := beq_iff_eq.mpr c29;have c29b1 : (t150 != 0) = false := bne_eq_false_iff_eq.mpr c29;clear c29
        by_cases c30 : t159 = 0
        · rw [if_pos c30] at H;have c30b0 : (t159 == 0) = true := beq_iff_eq.mpr c30;have c30b1 : (t159 != 0) = false := bne_eq_false_iff_eq.mpr c30;clear c30;have H' := Aside0.mk H;clear H;have hnb31 := eq_false NB146_152.out;have hnc31 := eq_false NB152_146.out;have hnb32 := eq_false NB146_161.out;have hnc32 := eq_false NB161_146.out;have hnb33 := eq_false NB146_167.out;have hnc33 := eq_false NB167_146.out;have hcz34_0 := hC BK146 0 (.int .i64 t144);have hcz34_1 := hC BK146 1 (.int .i64 t145);have hfz34_0 := blk_frozen BK146.out 0;have hfz34_1 := blk_frozen BK146.out 1;have hnb35 := eq_false NB152_161.out;have hnc35 := eq_false NB161_152.out;have hnb36 := eq_false NB152_167.out;have hnc36 := eq_false NB167_152.out;have hcz37_0 := hC BK152 0 (.int .i64 t150);have hcz37_1 := hC BK152 1 (.int .i64 t151);have hfz37_0 := blk_frozen BK152.out 0;have hfz37_1 := blk_frozen BK152.out 1;have hnb38 := eq_false NB161_167.out;have hnc38 := eq_false NB167_161.out;have hcz39_0 := hC BK161 0 (.int .i64 t159);have hcz39_1 := hC BK161 1 (.int .i64 t160);have hfz39_0 := blk_frozen BK161.out 0;have hfz39_1 := blk_frozen BK161.out 1;have hcz40_0 := hC BK167 0 (.int .i64 0);have hcz40_1 := hC BK167 1 (.int .i64 0);have hfz40_0 := blk_frozen BK167.out 0;have hfz40_1 := blk_frozen BK167.out 1
          go_wp2
          go_meet
          case rel => exact ⟨_, ((t165 != 0)), (by first|rfl|(simp only [i64_w, i32_w];done)|(simp only [i64_w, i32_w];rfl)|(simp;done)|(simp [*];done)), H', ⟨by first|omega|exact Nat.le_refl _⟩, ⟨by (with_reducible repeat first|apply rA|apply rN|apply rD);exact Kd.R_mono (Kd.R_far (p := ⟨gb167, 1, none⟩) (Kd.R_far (p := ⟨gb167, 0, none⟩) (Kd.R_types HO155.out BK167.out (by decide)) (fun _ hk => hk.2) (.int .i64 t165)) (fun _ hk => hk.2) (.int .i64 t166)) (fun _ hk => trivial)⟩, ⟨by (with_reducible repeat first|apply rA|apply rN|apply rD);exact Kd.R_mono (Kd.R_far (p := ⟨gb167, 1, none⟩) (Kd.R_far (p := ⟨gb167, 0, none⟩) (Kd.R_types HO164.out BK167.out (by decide)) (fun _ hk => hk.2) (.int .i64 t165)) (fun _ hk => hk.2) (.int .i64 t166)) (fun _ hk => trivial)⟩, ⟨kK⟩, ⟨kK⟩, ⟨kK⟩, ⟨kK⟩, ⟨eB⟩⟩
        · rw [if_neg c30] at H;have c30b0 : (t159 == 0) = false := beq_eq_false_iff_ne.mpr c30;have c30b1 : (t159 != 0) = true := bne_iff_ne.mpr c30;have H' := Aside0.mk H;clear H;have hnb41 := eq_false NB146_152.out;have hnc41 := eq_false NB152_146.out;have hnb42 := eq_false NB146_161.out;have hnc42 := eq_false NB161_146.out;have hnb43 := eq_false NB146_167.out;have hnc43 := eq_false NB167_146.out;have hcz44_0 := hC BK146 0 (.int .i64 t144);have hcz44_1 := hC BK146 1 (.int .i64 t145);have hfz44_0 := blk_frozen BK146.out 0;have hfz44_1 := blk_frozen BK146.out 1;have hnb45 := eq_false NB152_161.out;have hnc45 := eq_false NB161_152.out;have hnb46 := eq_false NB152_167.out;have hnc46 := eq_false NB167_152.out;have hcz47_0 := hC BK152 0 (.int .i64 t150);have hcz47_1 := hC BK152 1 (.int .i64 t151);have hfz47_0 := blk_frozen BK152.out 0;have hfz47_1 := blk_frozen BK152.out 1;have hnb48 := eq_false NB161_167.out;have hnc48 := eq_false NB167_161.out;have hcz49_0 := hC BK161 0 (.int .i64 t159);have hcz49_1 := hC BK161 1 (.int .i64 t160);have hfz49_0 := blk_frozen BK161.out 0;have hfz49_1 := blk_frozen BK161.out 1
          go_wp2
          go_meet
          case rel => exact ⟨_, (true), (by first|rfl|(simp only [i64_w, i32_w];done)|(simp only [i64_w, i32_w];rfl)|(simp;done)|(simp [*];done)), H', ⟨by first|omega|exact Nat.le_refl _⟩, ⟨by (with_reducible repeat first|apply rA|apply rN|apply rD);exact Kd.R_mono (Kd.R_far (p := ⟨gb167, 1, none⟩) (Kd.R_far (p := ⟨gb167, 0, none⟩) (Kd.R_types HO155.out BK167.out (by decide)) (fun _ hk => hk.2) (.int .i64 t165)) (fun _ hk => hk.2) (.int .i64 t166)) (fun _ hk => trivial)⟩, ⟨by (with_reducible repeat first|apply rA|apply rN|apply rD);exact Kd.R_mono (Kd.R_far (p := ⟨gb167, 1, none⟩) (Kd.R_far (p := ⟨gb167, 0, none⟩) (Kd.R_types HO164.out BK167.out (by decide)) (fun _ hk => hk.2) (.int .i64 t165)) (fun _ hk => hk.2) (.int .i64 t166)) (fun _ hk => trivial)⟩, ⟨kK⟩, ⟨kK⟩, ⟨kK⟩, ⟨kK⟩, ⟨eB⟩⟩
      · rw [if_neg c29] at H;have c29b0 : (t150 == 0) = false := beq_eq_false_iff_ne.mpr c29;have c29b1 : (t150 != 0) = true := bne_iff_ne.mpr c29;have H' := Aside0.mk H;clear H;have hnb50 := eq_false NB146_152.out;have hnc50 := eq_false NB152_146.out;have hnb51 := eq_false NB146_161.out;have hnc51 := eq_false NB161_146.out;have hnb52 := eq_false NB146_167.out;have hnc52 := eq_false NB167_146.out;have hcz53_0 := hC BK146 0 (.int .i64 t144);have hcz53_1 := hC BK146 1 (.int .i64 t145);have hfz53_0 := blk_frozen BK146.out 0;have hfz53_1 := blk_frozen BK146.out 1;have hnb54 := eq_false NB152_161.out;have hnc54 := eq_false NB161_152.out;have hnb55 := eq_false NB152_167.out;have hnc55 := eq_false NB167_152.out;have hcz56_0 := hC BK152 0 (.int .i64 t150);have hcz56_1 := hC BK152 1 (.int .i64 t151);have hfz56_0 := blk_frozen BK152.out 0;have hfz56_1 := blk_frozen BK152.out 1
        go_wp2
        go_meet
        case rel => exact ⟨_, (true), (by first|rfl|(simp only [i64_w, i32_w];done)|(simp only [i64_w, i32_w];rfl)|(simp;done)|(simp [*];done)), H', ⟨by first|omega|exact Nat.le_refl _⟩, ⟨by (with_reducible repeat first|apply rA|apply rN|apply rD);exact Kd.R_mono (Kd.R_far (p := ⟨gb167, 1, none⟩) (Kd.R_far (p := ⟨gb167, 0, none⟩) (Kd.R_types HO155.out BK167.out (by decide)) (fun _ hk => hk.2) (.int .i64 t165)) (fun _ hk => hk.2) (.int .i64 t166)) (fun _ hk => trivial)⟩, ⟨by (with_reducible repeat first|apply rA|apply rN|apply rD);exact Kd.R_mono (Kd.R_far (p := ⟨gb167, 1, none⟩) (Kd.R_far (p := ⟨gb167, 0, none⟩) (Kd.R_types HO164.out BK167.out (by decide)) (fun _ hk => hk.2) (.int .i64 t165)) (fun _ hk => hk.2) (.int .i64 t166)) (fun _ hk => trivial)⟩, ⟨kK⟩, ⟨kK⟩, ⟨kK⟩, ⟨kK⟩, ⟨eB⟩⟩
    · rw [if_neg c28] at H;have c28b0 : (t144 == 0) = false := beq_eq_false_iff_ne.mpr c28;have c28b1 : (t144 != 0) = true := bne_iff_ne.mpr c28
      (first|rw [c28b0]|(simp only [i64_w, i32_w];rw [c28b0])|skip)
      have H' := Aside0.mk H;clear H;have hnb57 := eq_false NB146_152.out;have hnc57 := eq_false NB152_146.out;have hnb58 := eq_false NB146_161.out;have hnc58 := eq_false NB161_146.out;have hnb59 := eq_false NB146_167.out;have hnc59 := eq_false NB167_146.out;have hcz60_0 := hC BK146 0 (.int .i64 t144);have hcz60_1 := hC BK146 1 (.int .i64 t145);have hfz60_0 := blk_frozen BK146.out 0;have hfz60_1 := blk_frozen BK146.out 1
      go_wp2
      go_meet
      case rel => exact ⟨_, (true), (by first|rfl|(simp only [i64_w, i32_w];done)|(simp only [i64_w, i32_w];rfl)|(simp;done)|(simp [*];done)), H', ⟨by first|omega|exact Nat.le_refl _⟩, ⟨by (with_reducible repeat first|apply rA|apply rN|apply rD);exact Kd.R_mono (Kd.R_far (p := ⟨gb167, 1, none⟩) (Kd.R_far (p := ⟨gb167, 0, none⟩) (Kd.R_types HO155.out BK167.out (by decide)) (fun _ hk => hk.2) (.int .i64 t165)) (fun _ hk => hk.2) (.int .i64 t166)) (fun _ hk => trivial)⟩, ⟨by (with_reducible repeat first|apply rA|apply rN|apply rD);exact Kd.R_mono (Kd.R_far (p := ⟨gb167, 1, none⟩) (Kd.R_far (p := ⟨gb167, 0, none⟩) (Kd.R_types HO164.out BK167.out (by decide)) (fun _ hk => hk.2) (.int .i64 t165)) (fun _ hk => hk.2) (.int .i64 t166)) (fun _ hk => trivial)⟩, ⟨kK⟩, ⟨kK⟩, ⟨kK⟩, ⟨kK⟩, ⟨eB⟩⟩
  case rest =>
    clear HC7
    try clear c1
    try clear c2
    try clear p2
    try clear c3
    try clear c4
    try clear c5
    try clear c13
    try clear c14
    try clear c17
    try clear c18
    try clear c19
    try clear c24
    try clear c25
    try clear c26
    try clear c28
    try clear c28b0
    try clear c28b1
    try clear c29
    try clear c29b0
    try clear c29b1
    try clear c30
    try clear c30b0
    try clear c30b1
    try clear c31
    try clear c32
    try clear c33
    try clear c34
    try clear c35
    try clear c36
    try clear c38
    try clear c41
    try clear c42
    try clear c43
    try clear c45
    try clear c46
    try clear c48
    try clear c50
    try clear c51
    try clear c52
    try clear c54
    try clear c55
    try clear c57
    try clear c58
    try clear c59
    try clear hcz10_0
    try clear hcz10_1
    try clear hcz14_0
    try clear hcz14_1
    try clear hcz19_0
    try clear hcz19_1
    try clear hcz27_0
    try clear hcz27_1
    try clear hcz34_0
    try clear hcz34_1
    try clear hcz37_0
    try clear hcz37_1
    try clear hcz39_0
    try clear hcz39_1
    try clear hcz40_0
    try clear hcz40_1
    try clear hcz44_0
    try clear hcz44_1
    try clear hcz47_0
    try clear hcz47_1
    try clear hcz49_0
    try clear hcz49_1
    try clear hcz53_0
    try clear hcz53_1
    try clear hcz56_0
    try clear hcz56_1
    try clear hcz60_0
    try clear hcz60_1
    try clear hfz10_0
    try clear hfz10_1
    try clear hfz14_0
    try clear hfz14_1
    try clear hfz19_0
    try clear hfz19_1
    try clear hfz27_0
    try clear hfz27_1
    try clear hfz34_0
    try clear hfz34_1
    try clear hfz37_0
    try clear hfz37_1
    try clear hfz39_0
    try clear hfz39_1
    try clear hfz40_0
    try clear hfz40_1
    try clear hfz44_0
    try clear hfz44_1
    try clear hfz47_0
    try clear hfz47_1
    try clear hfz49_0
    try clear hfz49_1
    try clear hfz53_0
    try clear hfz53_1
    try clear hfz56_0
    try clear hfz56_1
    try clear hfz60_0
    try clear hfz60_1
    obtain ⟨kq, x56_6, rfl, HA, HJ6, HO_9, HO_12, BK146, BK152, BK161, BK167, HB⟩ := hcut
    cases kq with
    | zero => exact absurd HA.out (by simp [changeforgelaw1_WorddiffAsLines.j0])
    | succ kj6 =>
      have H := HA.out;clear HA;simp only [changeforgelaw1_WorddiffAsLines.j0] at H
      by_cases c61 : x56_6 = true
      · subst c61;have H1 : ((changeforgelaw1_split.f).bind fun t168 => (some t168)) = some r := (by rw [if_pos rfl] at H;exact H);clear H;have H := H1;clear H1;replace H := Option.bind_eq_some_iff.mp H;obtain ⟨t168, A620, H⟩ := H;replace H : (some t168) = some r := H;have A62 := Aside0.mk A620;clear A620;obtain rfl := Option.some.inj H
        go_wp2_with (first|((with_reducible refine gate_callee (f := 32) rfl ?_);refine goesL_ (some 57) rfl rfl Try.func32 (by kernel_rfl) rfl #[] rfl mA ?_;(with_reducible refine (changeforgelaw1_split.calls  t168 _ A62.out).mono ?_);rintro e w63 ⟨rfl, hb⟩;refine ⟨_, rfl, ?_⟩;replace HO_9 := rL HO_9 hb;replace HO_12 := rL HO_12 hb;replace BK146 := lJ BK146 hb;replace BK152 := lJ BK152 hb;replace BK161 := lJ BK161 hb;replace BK167 := lJ BK167 hb;replace HB := sBe HB hb;(try clear hb)))
        go_ret
        exact ⟨rW, eB⟩
      · replace c61 := Bool.eq_false_iff.mpr c61;subst c61;have H1 : ((changeforgelaw1_rest.f kj6 a0 t153).bind fun bt169 => (if bt169.2 = true then ((changeforgelaw1_together.f t162).bind fun t171 => (if bt169.1.toList = t171.toList then ((changeforgelaw1_split.f).bind fun t172 => (some t172)) else (some false))) else (some false))) = some r := (by rw [if_neg (show ¬ (false = true) by decide)] at H;exact H);clear H;have H := H1;clear H1;replace H := Option.bind_eq_some_iff.mp H;obtain ⟨⟨t169, t170⟩, A640, H⟩ := H;replace H : (if t170 = true then ((changeforgelaw1_together.f t162).bind fun t171 => (if t169.toList = t171.toList then ((changeforgelaw1_split.f).bind fun t172 => (some t172)) else (some false))) else (some false)) = some r := H;have A64 := Aside0.mk A640;clear A640
        by_cases c65 : t170 = true
        · subst c65;have H1 : ((changeforgelaw1_together.f t162).bind fun t171 => (if t169.toList = t171.toList then ((changeforgelaw1_split.f).bind fun t172 => (some t172)) else (some false))) = some r := (by rw [if_pos rfl] at H;exact H);clear H;have H := H1;clear H1;replace H := Option.bind_eq_some_iff.mp H;obtain ⟨t171, A660, H⟩ := H;replace H : (if t169.toList = t171.toList then ((changeforgelaw1_split.f).bind fun t172 => (some t172)) else (some false)) = some r := H;have A66 := Aside0.mk A660;clear A660
          by_cases c67 : t169.toList = t171.toList
          · rw [if_pos c67] at H;have c67b0 : (t169.toList == t171.toList) = true := beq_iff_eq.mpr c67;have c67b1 : (t169.toList != t171.toList) = false := bne_eq_false_iff_eq.mpr c67;clear c67;replace H := Option.bind_eq_some_iff.mp H;obtain ⟨t172, A680, H⟩ := H;replace H : (some t172) = some r := H;have A68 := Aside0.mk A680;clear A680;obtain rfl := Option.some.inj H;obtain ⟨Ao69, co69, eo69⟩ := Kd.R_slice HO_9.out;subst eo69
            go_wp2_with (first|((with_reducible refine gate_callee (f := 40) rfl ?_);refine goesL_ (some 61) rfl rfl Try.func40 (by kernel_rfl) rfl #[.string a0, .slice Ao69 t153.length co69] rfl mA ?_;(with_reducible refine (changeforgelaw1_rest.calls kj6 a0 _ _ t153 t169 true _ ?side1 ?side2 A64.out).mono ?_);(case side1 => repeat (first|exact (Kd.R_reads' HO_9.out).2.2|(with_reducible refine Kd.C_alloc ?_ _)|(with_reducible refine Kd.C_drewN ?_ _)|(with_reducible refine Kd.C_drew ?_)));(case side2 => exact (Kd.R_reads' HO_9.out).2.1);rintro e w' ⟨rfl, ⟨nd, rfl⟩⟩;refine ⟨_, rfl, ?_⟩;obtain ⟨Ao70, co70, eo70⟩ := Kd.R_slice HO_12.out;subst eo70)|(go_at_call 33;(with_reducible refine (changeforgelaw1_together.calls _ _ t162 t171 _ ?side1 ?side2 A66.out).mono ?_);(case side1 => repeat (first|exact (Kd.R_reads' HO_12.out).2.2|(with_reducible refine Kd.C_alloc ?_ _)|(with_reducible refine Kd.C_drewN ?_ _)|(with_reducible refine Kd.C_drew ?_)));(case side2 => exact (Kd.R_reads' HO_12.out).2.1);rintro e w' ⟨rfl, ⟨nd, rfl⟩⟩)|(go_at_call 32;(with_reducible refine (changeforgelaw1_split.calls  t172 _ A68.out).mono ?_);rintro e w71 ⟨rfl, hb⟩;replace HO_9 := rL HO_9 hb;replace HO_12 := rL HO_12 hb;replace BK146 := lJ BK146 hb;replace BK152 := lJ BK152 hb;replace BK161 := lJ BK161 hb;replace BK167 := lJ BK167 hb;replace HB := sBe HB hb;(try clear hb)))
            go_ret
            exact ⟨rW, eB⟩
          · rw [if_neg c67] at H;have c67b0 : (t169.toList == t171.toList) = false := beq_eq_false_iff_ne.mpr c67;have c67b1 : (t169.toList != t171.toList) = true := bne_iff_ne.mpr c67;obtain rfl := Option.some.inj H;exact absurd hrt (by decide)
        · replace c65 := Bool.eq_false_iff.mpr c65;subst c65;have H1 : (some false) = some r := (by rw [if_neg (show ¬ (false = true) by decide)] at H;exact H);clear H;have H := H1;clear H1;obtain rfl := Option.some.inj H;exact absurd hrt (by decide)
/-- THE ONE PURE STATEMENT of changeforgelaw1_WorddiffAsLines: yours. -/
def changeforgelaw1_WorddiffAsLines.Pure : Prop := ∀ (a0 : ByteArray) (a1 : ByteArray), a0.size ≤ 140737488351232 → a1.size ≤ 140737488351232 → ∃ k, changeforgelaw1_WorddiffAsLines.f k a0 a1 = some true
theorem changeforgelaw1_WorddiffAsLines.walk (P : changeforgelaw1_WorddiffAsLines.Pure) (a0 : ByteArray) (a1 : ByteArray) (w : World) (hw0 : a0.size ≤ 140737488351232) (hw1 : a1.size ≤ 140737488351232) :
    Calls Try.prog 14 #[.string a0, .string a1] w fun e w' => e = .returned (.bool true) ∧ Below w.heap.size w w' := by
  obtain ⟨k, h⟩ := P a0 a1 hw0 hw1;refine (changeforgelaw1_WorddiffAsLines.calls k a0 a1 true w h rfl).mono ?_
  rintro e w' ⟨rfl, hd⟩
  exact ⟨rfl, hd⟩

end Go.Proofs.Ytifkadmljokffaa.PK
