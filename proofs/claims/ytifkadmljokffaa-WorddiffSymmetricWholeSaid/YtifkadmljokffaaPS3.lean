/- Printed by a program of this session out of the translation: Lean functions for Go functions, and proofs that the Go functions answer the same. -/
import Derived.Test.YtifkadmljokffaaPS0
import Derived.Test.YtifkadmljokffaaPS1
import Derived.Test.YtifkadmljokffaaPS2
namespace Go.Proofs.Ytifkadmljokffaa.PS
open Go.RowKit Go.Proofs.Ytifkadmljokffaa.Pre Go.Proofs.YtifkadmljokffaaW.PrintWords Go.Proofs.YtifkadmljokffaaW.PrintLast Go.Proofs.YtifkadmljokffaaW.PrintMore
attribute [local go_sem] max2_int min2_int max_two min_two max_three min_three max_four min_four   -- for this text's walks alone
set_option linter.unusedVariables false
set_option linter.unusedSimpArgs false

/-! ### changeforgelaw1_WorddiffSymmetricWhole: function 13 -/
mutual
def changeforgelaw1_WorddiffSymmetricWhole.j0 : Nat → ByteArray → ByteArray → List (S95) → List (S95) → List ByteArray → List ByteArray → Bool → Option (Bool)
  | 0, _, _, _, _, _, _, _ => none
  | k + 1, x0, x1, x5, x6, x8, x10, x47 => if x47 = true then ((changeforgelaw1_split.f).bind fun t156 => (some t156)) else (changeforgelaw1_WorddiffSymmetricWhole.l0 k x0 x1 x5 x6 x8 x10 0)
def changeforgelaw1_WorddiffSymmetricWhole.l0 : Nat → ByteArray → ByteArray → List (S95) → List (S95) → List ByteArray → List ByteArray → Int → Option (Bool)
  | 0, _, _, _, _, _, _, _ => none
  | k + 1, x0, x1, x5, x6, x8, x10, x12 => if x12 < (x8.length : Int) then (changeforgelaw1_WorddiffSymmetricWhole.l1 k x0 x1 x5 x6 x8 x10 x12 0) else ((changeforgelaw1_rest.f k x0 x5).bind fun bt157 => ((changeforgelaw1_rest.f k x1 x6).bind fun bt159 => (if bt157.2 = true then (if bt159.2 = true then (if bt157.1.toList = ([] : List UInt8) then (if bt159.1.toList = ([] : List UInt8) then ((changeforgelaw1_split.f).bind fun t161 => (some t161)) else (some false)) else (some false)) else (some false)) else (some false))))
def changeforgelaw1_WorddiffSymmetricWhole.l1 : Nat → ByteArray → ByteArray → List (S95) → List (S95) → List ByteArray → List ByteArray → Int → Int → Option (Bool)
  | 0, _, _, _, _, _, _, _, _ => none
  | k + 1, x0, x1, x5, x6, x8, x10, x12, x13 => if x13 < (x10.length : Int) then (if 0 ≤ x12 then (if x12 < (x8.length : Int) then (if 0 ≤ x13 then (if (rdOf ByteArray.empty x8 x12).toList = (rdOf ByteArray.empty x10 x13).toList then ((changeforgelaw1_split.f).bind fun t164 => (some t164)) else (changeforgelaw1_WorddiffSymmetricWhole.l1 k x0 x1 x5 x6 x8 x10 x12 (wrap64 (x13 + 1)))) else (none)) else (none)) else (none)) else (changeforgelaw1_WorddiffSymmetricWhole.l0 k x0 x1 x5 x6 x8 x10 (wrap64 (x12 + 1)))
end
def changeforgelaw1_WorddiffSymmetricWhole.f (k : Nat) (a0 : ByteArray) (a1 : ByteArray) : Option (Bool) := (worddiff_Highlight.f a0 a1).bind fun bt135 => ((worddiff_Tokens.f a0).bind fun bt144 => ((worddiff_Tokens.f a1).bind fun bt150 => (if bt135.2.2.1 = 0 then (if bt144.2.1 = 0 then (changeforgelaw1_WorddiffSymmetricWhole.j0 k a0 a1 bt135.1 bt135.2.1 bt144.1 bt150.1 (bt150.2.1 != 0)) else (changeforgelaw1_WorddiffSymmetricWhole.j0 k a0 a1 bt135.1 bt135.2.1 bt144.1 bt150.1 true)) else (changeforgelaw1_WorddiffSymmetricWhole.j0 k a0 a1 bt135.1 bt135.2.1 bt144.1 bt150.1 true))))
theorem changeforgelaw1_WorddiffSymmetricWhole.mono_l : ∀ k, (∀ y0 y1 y2 y3 y4 y5 y6, LeO (changeforgelaw1_WorddiffSymmetricWhole.j0 k y0 y1 y2 y3 y4 y5 y6) (changeforgelaw1_WorddiffSymmetricWhole.j0 (k + 1) y0 y1 y2 y3 y4 y5 y6)) ∧ (∀ y0 y1 y2 y3 y4 y5 y6, LeO (changeforgelaw1_WorddiffSymmetricWhole.l0 k y0 y1 y2 y3 y4 y5 y6) (changeforgelaw1_WorddiffSymmetricWhole.l0 (k + 1) y0 y1 y2 y3 y4 y5 y6)) ∧ (∀ y0 y1 y2 y3 y4 y5 y6 y7, LeO (changeforgelaw1_WorddiffSymmetricWhole.l1 k y0 y1 y2 y3 y4 y5 y6 y7) (changeforgelaw1_WorddiffSymmetricWhole.l1 (k + 1) y0 y1 y2 y3 y4 y5 y6 y7))
  | 0 => ⟨fun _ _ _ _ _ _ _ r h => by simp [changeforgelaw1_WorddiffSymmetricWhole.j0] at h, fun _ _ _ _ _ _ _ r h => by simp [changeforgelaw1_WorddiffSymmetricWhole.l0] at h, fun _ _ _ _ _ _ _ _ r h => by simp [changeforgelaw1_WorddiffSymmetricWhole.l1] at h⟩
  | k + 1 => by
    obtain ⟨ih0, ih1, ih2⟩ := changeforgelaw1_WorddiffSymmetricWhole.mono_l k;refine ⟨?_, ?_, ?_⟩
    · intro y0 y1 y2 y3 y4 y5 y6
      unfold changeforgelaw1_WorddiffSymmetricWhole.j0
      repeat' first
      | (with_reducible exact ih0 _ _ _ _ _ _ _)
      | (with_reducible exact ih1 _ _ _ _ _ _ _)
      | (with_reducible exact ih2 _ _ _ _ _ _ _ _)
      | (with_reducible exact changeforgelaw1_rest.mono _ _ _)
      | (with_reducible exact LeO.refl _)
      | (with_reducible exact LeO.none _)
      | (with_reducible refine LeO.ite ?_ ?_)
      | (with_reducible refine LeO.bind ?_ (fun _ => ?_))
      | exact ih0 _ _ _ _ _ _ _
      | exact ih1 _ _ _ _ _ _ _
      | exact ih2 _ _ _ _ _ _ _ _
      | exact changeforgelaw1_rest.mono _ _ _
      | exact LeO.none _
      | refine LeO.ite ?_ ?_
      | refine LeO.bind ?_ (fun _ => ?_)
    · intro y0 y1 y2 y3 y4 y5 y6
      unfold changeforgelaw1_WorddiffSymmetricWhole.l0
      repeat' first
      | (with_reducible exact ih0 _ _ _ _ _ _ _)
      | (with_reducible exact ih1 _ _ _ _ _ _ _)
      | (with_reducible exact ih2 _ _ _ _ _ _ _ _)
      | (with_reducible exact changeforgelaw1_rest.mono _ _ _)
      | (with_reducible exact LeO.refl _)
      | (with_reducible exact LeO.none _)
      | (with_reducible refine LeO.ite ?_ ?_)
      | (with_reducible refine LeO.bind ?_ (fun _ => ?_))
      | exact ih0 _ _ _ _ _ _ _
      | exact ih1 _ _ _ _ _ _ _
      | exact ih2 _ _ _ _ _ _ _ _
      | exact changeforgelaw1_rest.mono _ _ _
      | exact LeO.none _
      | refine LeO.ite ?_ ?_
      | refine LeO.bind ?_ (fun _ => ?_)
    · intro y0 y1 y2 y3 y4 y5 y6 y7
      unfold changeforgelaw1_WorddiffSymmetricWhole.l1
      repeat' first
      | (with_reducible exact ih0 _ _ _ _ _ _ _)
      | (with_reducible exact ih1 _ _ _ _ _ _ _)
      | (with_reducible exact ih2 _ _ _ _ _ _ _ _)
      | (with_reducible exact changeforgelaw1_rest.mono _ _ _)
      | (with_reducible exact LeO.refl _)
      | (with_reducible exact LeO.none _)
      | (with_reducible refine LeO.ite ?_ ?_)
      | (with_reducible refine LeO.bind ?_ (fun _ => ?_))
      | exact ih0 _ _ _ _ _ _ _
      | exact ih1 _ _ _ _ _ _ _
      | exact ih2 _ _ _ _ _ _ _ _
      | exact changeforgelaw1_rest.mono _ _ _
      | exact LeO.none _
      | refine LeO.ite ?_ ?_
      | refine LeO.bind ?_ (fun _ => ?_)
theorem changeforgelaw1_WorddiffSymmetricWhole.mono : ∀ a0 a1 k, LeO (changeforgelaw1_WorddiffSymmetricWhole.f k a0 a1) (changeforgelaw1_WorddiffSymmetricWhole.f (k + 1) a0 a1) := by
  intro a0 a1 k
  obtain ⟨ih0, ih1, ih2⟩ := changeforgelaw1_WorddiffSymmetricWhole.mono_l k
  unfold changeforgelaw1_WorddiffSymmetricWhole.f
  repeat' first
      | (with_reducible exact ih0 _ _ _ _ _ _ _)
      | (with_reducible exact ih1 _ _ _ _ _ _ _)
      | (with_reducible exact ih2 _ _ _ _ _ _ _ _)
      | (with_reducible exact changeforgelaw1_rest.mono _ _ _)
      | (with_reducible exact LeO.refl _)
      | (with_reducible exact LeO.none _)
      | (with_reducible refine LeO.ite ?_ ?_)
      | (with_reducible refine LeO.bind ?_ (fun _ => ?_))
      | exact ih0 _ _ _ _ _ _ _
      | exact ih1 _ _ _ _ _ _ _
      | exact ih2 _ _ _ _ _ _ _ _
      | exact changeforgelaw1_rest.mono _ _ _
      | exact LeO.none _
      | refine LeO.ite ?_ ?_
      | refine LeO.bind ?_ (fun _ => ?_)
set_option maxHeartbeats 8000000 in
set_option maxRecDepth 100000 in
theorem changeforgelaw1_WorddiffSymmetricWhole.calls (k : Nat) (a0 : ByteArray) (a1 : ByteArray) (r : Bool) (w : World) (h : changeforgelaw1_WorddiffSymmetricWhole.f k a0 a1 = some r) (hrt : r = true) :
    Calls Try.prog 13 #[.string a0, .string a1] w fun e w' => e = .returned (.bool r) ∧ Below w.heap.size w w' := by
  have hu24 := Try.underlying24;have HB := Aside0.mk (Below.refl w.heap.size w);have H : ((worddiff_Highlight.f a0 a1).bind fun bt135 => ((worddiff_Tokens.f a0).bind fun bt144 => ((worddiff_Tokens.f a1).bind fun bt150 => (if bt135.2.2.1 = 0 then (if bt144.2.1 = 0 then (changeforgelaw1_WorddiffSymmetricWhole.j0 k a0 a1 bt135.1 bt135.2.1 bt144.1 bt150.1 (bt150.2.1 != 0)) else (changeforgelaw1_WorddiffSymmetricWhole.j0 k a0 a1 bt135.1 bt135.2.1 bt144.1 bt150.1 true)) else (changeforgelaw1_WorddiffSymmetricWhole.j0 k a0 a1 bt135.1 bt135.2.1 bt144.1 bt150.1 true))))) = some r := h;clear h;replace H := Option.bind_eq_some_iff.mp H;obtain ⟨⟨t135, t138, t141, t142⟩, A30, H⟩ := H;replace H : ((worddiff_Tokens.f a0).bind fun bt144 => ((worddiff_Tokens.f a1).bind fun bt150 => (if t141 = 0 then (if bt144.2.1 = 0 then (changeforgelaw1_WorddiffSymmetricWhole.j0 k a0 a1 t135 t138 bt144.1 bt150.1 (bt150.2.1 != 0)) else (changeforgelaw1_WorddiffSymmetricWhole.j0 k a0 a1 t135 t138 bt144.1 bt150.1 true)) else (changeforgelaw1_WorddiffSymmetricWhole.j0 k a0 a1 t135 t138 bt144.1 bt150.1 true)))) = some r := H;have A3 := Aside0.mk A30;clear A30;replace H := Option.bind_eq_some_iff.mp H;obtain ⟨⟨t144, t147, t148⟩, A40, H⟩ := H;replace H : ((worddiff_Tokens.f a1).bind fun bt150 => (if t141 = 0 then (if t147 = 0 then (changeforgelaw1_WorddiffSymmetricWhole.j0 k a0 a1 t135 t138 t144 bt150.1 (bt150.2.1 != 0)) else (changeforgelaw1_WorddiffSymmetricWhole.j0 k a0 a1 t135 t138 t144 bt150.1 true)) else (changeforgelaw1_WorddiffSymmetricWhole.j0 k a0 a1 t135 t138 t144 bt150.1 true))) = some r := H;have A4 := Aside0.mk A40;clear A40;replace H := Option.bind_eq_some_iff.mp H;obtain ⟨⟨t150, t153, t154⟩, A50, H⟩ := H;replace H : (if t141 = 0 then (if t147 = 0 then (changeforgelaw1_WorddiffSymmetricWhole.j0 k a0 a1 t135 t138 t144 t150 (t153 != 0)) else (changeforgelaw1_WorddiffSymmetricWhole.j0 k a0 a1 t135 t138 t144 t150 true)) else (changeforgelaw1_WorddiffSymmetricWhole.j0 k a0 a1 t135 t138 t144 t150 true)) = some r := H;have A5 := Aside0.mk A50;clear A50;have HC6 := Aside0.mk H;clear H
  go_enter Try.func13, Try.ntmps13
  go_upto_region 4 with (first|(go_at_call 34;(with_reducible refine (worddiff_Highlight.calls a0 a1 t135 t138 t141 t142 _ A3.out).mono ?_);rintro e w7 ⟨v136, v139, rfl, ho0, ho1, hb⟩;have HO137 := Aside0.mk (Kd.R_lower ho0 (below_size eB));have HO140 := Aside0.mk (Kd.R_lower ho1 (below_size eB));replace HB := sBe HB hb;(try clear hb ho0 ho1))|((with_reducible refine gate_dst (N := 7) rfl ?_);refine bE 7 #[.int .i64 0, .int .i64 0] 24 ?_;intro gb143 hg w8 hbox hb;have BK143 := Aside0.mk (hbox);have GW143 := gBe HB hg;have GE143 := gBe HB hg;replace HO137 := rL HO137 hb;replace HO140 := rL HO140 hb;replace HB := sBe HB hb;clear hb hbox hg;have hcz9_0 := hC BK143 0 (.int .i64 0);have hcz9_1 := hC BK143 1 (.int .i64 0);have hfz9_0 := blk_frozen BK143.out 0;have hfz9_1 := blk_frozen BK143.out 1)|(go_at_call 31;(with_reducible refine (worddiff_Tokens.calls a0 t144 t147 t148 _ A4.out).mono ?_);rintro e w10 ⟨v145, rfl, ho0, hb⟩;have HO146 := Aside0.mk (Kd.R_lower ho0 (below_size eB));replace HO137 := Aside0.mk (Kd.R_below (by (with_reducible repeat first|apply rA|apply rN|apply rD);exact (Kd.R_mono (Kd.R_far (p := ⟨gb143, 1, none⟩) (Kd.R_far (p := ⟨gb143, 0, none⟩) (Kd.R_types HO137.out BK143.out (by decide)) (fun _ hk => hk.2) (.int .i64 t141)) (fun _ hk => hk.2) (.int .i64 t142)) (fun _ h_ => h_.1))) hb);replace HO140 := Aside0.mk (Kd.R_below (by (with_reducible repeat first|apply rA|apply rN|apply rD);exact (Kd.R_mono (Kd.R_far (p := ⟨gb143, 1, none⟩) (Kd.R_far (p := ⟨gb143, 0, none⟩) (Kd.R_types HO140.out BK143.out (by decide)) (fun _ hk => hk.2) (.int .i64 t141)) (fun _ hk => hk.2) (.int .i64 t142)) (fun _ h_ => h_.1))) hb);replace BK143 := lK gb143 24 #[.int .i64 t141, .int .i64 t142] hb;replace HB := sBe HB hb;(try clear hb ho0))|((with_reducible refine gate_dst (N := 9) rfl ?_);refine bE 9 #[.int .i64 0, .int .i64 0] 24 ?_;intro gb149 hg w11 hbox hb;have BK149 := Aside0.mk (hbox);have GW149 := gBe HB hg;have GE149 := gBe HB hg;have NB143_149 := nL BK143 hg;have NB149_143 := nG BK143 hg;replace HO137 := rL HO137 hb;replace HO140 := rL HO140 hb;replace HO146 := rL HO146 hb;replace BK143 := lJ BK143 hb;replace HB := sBe HB hb;clear hb hbox hg;have hnb12 := eq_false NB149_143.out;have hnc12 := eq_false NB143_149.out;have hcz13_0 := hC BK149 0 (.int .i64 0);have hcz13_1 := hC BK149 1 (.int .i64 0);have hfz13_0 := blk_frozen BK149.out 0;have hfz13_1 := blk_frozen BK149.out 1)|(go_at_call 31;(with_reducible refine (worddiff_Tokens.calls a1 t150 t153 t154 _ A5.out).mono ?_);rintro e w14 ⟨v151, rfl, ho0, hb⟩;have HO152 := Aside0.mk (Kd.R_lower (Kd.R_new' ho0 (Kd.R_lt (by (with_reducible repeat first|apply rA|apply rN|apply rD);exact (Kd.R_mono (Kd.R_far (p := ⟨gb149, 1, none⟩) (Kd.R_far (p := ⟨gb149, 0, none⟩) (Kd.R_types HO146.out BK149.out (by decide)) (fun _ hk => hk.2) (.int .i64 t147)) (fun _ hk => hk.2) (.int .i64 t148)) (fun _ h_ => h_.1))))) (below_size eB));replace HO137 := Aside0.mk (Kd.R_below (by (with_reducible repeat first|apply rA|apply rN|apply rD);exact (Kd.R_mono (Kd.R_far (p := ⟨gb149, 1, none⟩) (Kd.R_far (p := ⟨gb149, 0, none⟩) (Kd.R_types HO137.out BK149.out (by decide)) (fun _ hk => hk.2) (.int .i64 t147)) (fun _ hk => hk.2) (.int .i64 t148)) (fun _ h_ => h_.1))) hb);replace HO140 := Aside0.mk (Kd.R_below (by (with_reducible repeat first|apply rA|apply rN|apply rD);exact (Kd.R_mono (Kd.R_far (p := ⟨gb149, 1, none⟩) (Kd.R_far (p := ⟨gb149, 0, none⟩) (Kd.R_types HO140.out BK149.out (by decide)) (fun _ hk => hk.2) (.int .i64 t147)) (fun _ hk => hk.2) (.int .i64 t148)) (fun _ h_ => h_.1))) hb);replace HO146 := Aside0.mk (Kd.R_elder' (by (with_reducible repeat first|apply rA|apply rN|apply rD);exact (Kd.R_mono (Kd.R_far (p := ⟨gb149, 1, none⟩) (Kd.R_far (p := ⟨gb149, 0, none⟩) (Kd.R_types HO146.out BK149.out (by decide)) (fun _ hk => hk.2) (.int .i64 t147)) (fun _ hk => hk.2) (.int .i64 t148)) (fun _ h_ => h_.1))) (Kd.R_base ho0) hb);replace BK143 := lJ BK143 hb;replace BK149 := lK gb149 24 #[.int .i64 t147, .int .i64 t148] hb;replace HB := sBe HB hb;(try clear hb ho0))|((with_reducible refine gate_dst (N := 11) rfl ?_);refine bE 11 #[.int .i64 0, .int .i64 0] 24 ?_;intro gb155 hg w15 hbox hb;have BK155 := Aside0.mk (hbox);have GW155 := gBe HB hg;have GE155 := gBe HB hg;have NB143_155 := nL BK143 hg;have NB155_143 := nG BK143 hg;have NB149_155 := nL BK149 hg;have NB155_149 := nG BK149 hg;replace HO137 := rL HO137 hb;replace HO140 := rL HO140 hb;replace HO146 := rL HO146 hb;replace HO152 := rL HO152 hb;replace BK143 := lJ BK143 hb;replace BK149 := lJ BK149 hb;replace HB := sBe HB hb;clear hb hbox hg;have hnb16 := eq_false NB155_143.out;have hnc16 := eq_false NB143_155.out;have hnb17 := eq_false NB155_149.out;have hnc17 := eq_false NB149_155.out;have hcz18_0 := hC BK155 0 (.int .i64 0);have hcz18_1 := hC BK155 1 (.int .i64 0);have hfz18_0 := blk_frozen BK155.out 0;have hfz18_1 := blk_frozen BK155.out 1))
  repeat (go_quiet (first|(go_at_call 34;(with_reducible refine (worddiff_Highlight.calls a0 a1 t135 t138 t141 t142 _ A3.out).mono ?_);rintro e w7 ⟨v136, v139, rfl, ho0, ho1, hb⟩;have HO137 := Aside0.mk (Kd.R_lower ho0 (below_size eB));have HO140 := Aside0.mk (Kd.R_lower ho1 (below_size eB));replace HB := sBe HB hb;(try clear hb ho0 ho1))|((with_reducible refine gate_dst (N := 7) rfl ?_);refine bE 7 #[.int .i64 0, .int .i64 0] 24 ?_;intro gb143 hg w8 hbox hb;have BK143 := Aside0.mk (hbox);have GW143 := gBe HB hg;have GE143 := gBe HB hg;replace HO137 := rL HO137 hb;replace HO140 := rL HO140 hb;replace HB := sBe HB hb;clear hb hbox hg;have hcz9_0 := hC BK143 0 (.int .i64 0);have hcz9_1 := hC BK143 1 (.int .i64 0);have hfz9_0 := blk_frozen BK143.out 0;have hfz9_1 := blk_frozen BK143.out 1)|(go_at_call 31;(with_reducible refine (worddiff_Tokens.calls a0 t144 t147 t148 _ A4.out).mono ?_);rintro e w10 ⟨v145, rfl, ho0, hb⟩;have HO146 := Aside0.mk (Kd.R_lower ho0 (below_size eB));replace HO137 := Aside0.mk (Kd.R_below (by (with_reducible repeat first|apply rA|apply rN|apply rD);exact (Kd.R_mono (Kd.R_far (p := ⟨gb143, 1, none⟩) (Kd.R_far (p := ⟨gb143, 0, none⟩) (Kd.R_types HO137.out BK143.out (by decide)) (fun _ hk => hk.2) (.int .i64 t141)) (fun _ hk => hk.2) (.int .i64 t142)) (fun _ h_ => h_.1))) hb);replace HO140 := Aside0.mk (Kd.R_below (by (with_reducible repeat first|apply rA|apply rN|apply rD);exact (Kd.R_mono (Kd.R_far (p := ⟨gb143, 1, none⟩) (Kd.R_far (p := ⟨gb143, 0, none⟩) (Kd.R_types HO140.out BK143.out (by decide)) (fun _ hk => hk.2) (.int .i64 t141)) (fun _ hk => hk.2) (.int .i64 t142)) (fun _ h_ => h_.1))) hb);replace BK143 := lK gb143 24 #[.int .i64 t141, .int .i64 t142] hb;replace HB := sBe HB hb;(try clear hb ho0))|((with_reducible refine gate_dst (N := 9) rfl ?_);refine bE 9 #[.int .i64 0, .int .i64 0] 24 ?_;intro gb149 hg w11 hbox hb;have BK149 := Aside0.mk (hbox);have GW149 := gBe HB hg;have GE149 := gBe HB hg;have NB143_149 := nL BK143 hg;have NB149_143 := nG BK143 hg;replace HO137 := rL HO137 hb;replace HO140 := rL HO140 hb;replace HO146 := rL HO146 hb;replace BK143 := lJ BK143 hb;replace HB := sBe HB hb;clear hb hbox hg;have hnb12 := eq_false NB149_143.out;have hnc12 := eq_false NB143_149.out;have hcz13_0 := hC BK149 0 (.int .i64 0);have hcz13_1 := hC BK149 1 (.int .i64 0);have hfz13_0 := blk_frozen BK149.out 0;have hfz13_1 := blk_frozen BK149.out 1)|(go_at_call 31;(with_reducible refine (worddiff_Tokens.calls a1 t150 t153 t154 _ A5.out).mono ?_);rintro e w14 ⟨v151, rfl, ho0, hb⟩;have HO152 := Aside0.mk (Kd.R_lower (Kd.R_new' ho0 (Kd.R_lt (by (with_reducible repeat first|apply rA|apply rN|apply rD);exact (Kd.R_mono (Kd.R_far (p := ⟨gb149, 1, none⟩) (Kd.R_far (p := ⟨gb149, 0, none⟩) (Kd.R_types HO146.out BK149.out (by decide)) (fun _ hk => hk.2) (.int .i64 t147)) (fun _ hk => hk.2) (.int .i64 t148)) (fun _ h_ => h_.1))))) (below_size eB));replace HO137 := Aside0.mk (Kd.R_below (by (with_reducible repeat first|apply rA|apply rN|apply rD);exact (Kd.R_mono (Kd.R_far (p := ⟨gb149, 1, none⟩) (Kd.R_far (p := ⟨gb149, 0, none⟩) (Kd.R_types HO137.out BK149.out (by decide)) (fun _ hk => hk.2) (.int .i64 t147)) (fun _ hk => hk.2) (.int .i64 t148)) (fun _ h_ => h_.1))) hb);replace HO140 := Aside0.mk (Kd.R_below (by (with_reducible repeat first|apply rA|apply rN|apply rD);exact (Kd.R_mono (Kd.R_far (p := ⟨gb149, 1, none⟩) (Kd.R_far (p := ⟨gb149, 0, none⟩) (Kd.R_types HO140.out BK149.out (by decide)) (fun _ hk => hk.2) (.int .i64 t147)) (fun _ hk => hk.2) (.int .i64 t148)) (fun _ h_ => h_.1))) hb);replace HO146 := Aside0.mk (Kd.R_elder' (by (with_reducible repeat first|apply rA|apply rN|apply rD);exact (Kd.R_mono (Kd.R_far (p := ⟨gb149, 1, none⟩) (Kd.R_far (p := ⟨gb149, 0, none⟩) (Kd.R_types HO146.out BK149.out (by decide)) (fun _ hk => hk.2) (.int .i64 t147)) (fun _ hk => hk.2) (.int .i64 t148)) (fun _ h_ => h_.1))) (Kd.R_base ho0) hb);replace BK143 := lJ BK143 hb;replace BK149 := lK gb149 24 #[.int .i64 t147, .int .i64 t148] hb;replace HB := sBe HB hb;(try clear hb ho0))|((with_reducible refine gate_dst (N := 11) rfl ?_);refine bE 11 #[.int .i64 0, .int .i64 0] 24 ?_;intro gb155 hg w15 hbox hb;have BK155 := Aside0.mk (hbox);have GW155 := gBe HB hg;have GE155 := gBe HB hg;have NB143_155 := nL BK143 hg;have NB155_143 := nG BK143 hg;have NB149_155 := nL BK149 hg;have NB155_149 := nG BK149 hg;replace HO137 := rL HO137 hb;replace HO140 := rL HO140 hb;replace HO146 := rL HO146 hb;replace HO152 := rL HO152 hb;replace BK143 := lJ BK143 hb;replace BK149 := lJ BK149 hb;replace HB := sBe HB hb;clear hb hbox hg;have hnb16 := eq_false NB155_143.out;have hnc16 := eq_false NB143_155.out;have hnb17 := eq_false NB155_149.out;have hnc17 := eq_false NB149_155.out;have hcz18_0 := hC BK155 0 (.int .i64 0);have hcz18_1 := hC BK155 1 (.int .i64 0);have hfz18_0 := blk_frozen BK155.out 0;have hfz18_1 := blk_frozen BK155.out 1));go_upto_region 4 with (first|(go_at_call 34;(with_reducible refine (worddiff_Highlight.calls a0 a1 t135 t138 t141 t142 _ A3.out).mono ?_);rintro e w7 ⟨v136, v139, rfl, ho0, ho1, hb⟩;have HO137 := Aside0.mk (Kd.R_lower ho0 (below_size eB));have HO140 := Aside0.mk (Kd.R_lower ho1 (below_size eB));replace HB := sBe HB hb;(try clear hb ho0 ho1))|((with_reducible refine gate_dst (N := 7) rfl ?_);refine bE 7 #[.int .i64 0, .int .i64 0] 24 ?_;intro gb143 hg w8 hbox hb;have BK143 := Aside0.mk (hbox);have GW143 := gBe HB hg;have GE143 := gBe HB hg;replace HO137 := rL HO137 hb;replace HO140 := rL HO140 hb;replace HB := sBe HB hb;clear hb hbox hg;have hcz9_0 := hC BK143 0 (.int .i64 0);have hcz9_1 := hC BK143 1 (.int .i64 0);have hfz9_0 := blk_frozen BK143.out 0;have hfz9_1 := blk_frozen BK143.out 1)|(go_at_call 31;(with_reducible refine (worddiff_Tokens.calls a0 t144 t147 t148 _ A4.out).mono ?_);rintro e w10 ⟨v145, rfl, ho0, hb⟩;have HO146 := Aside0.mk (Kd.R_lower ho0 (below_size eB));replace HO137 := Aside0.mk (Kd.R_below (by (with_reducible repeat first|apply rA|apply rN|apply rD);exact (Kd.R_mono (Kd.R_far (p := ⟨gb143, 1, none⟩) (Kd.R_far (p := ⟨gb143, 0, none⟩) (Kd.R_types HO137.out BK143.out (by decide)) (fun _ hk => hk.2) (.int .i64 t141)) (fun _ hk => hk.2) (.int .i64 t142)) (fun _ h_ => h_.1))) hb);replace HO140 := Aside0.mk (Kd.R_below (by (with_reducible repeat first|apply rA|apply rN|apply rD);exact (Kd.R_mono (Kd.R_far (p := ⟨gb143, 1, none⟩) (Kd.R_far (p := ⟨gb143, 0, none⟩) (Kd.R_types HO140.out BK143.out (by decide)) (fun _ hk => hk.2) (.int .i64 t141)) (fun _ hk => hk.2) (.int .i64 t142)) (fun _ h_ => h_.1))) hb);replace BK143 := lK gb143 24 #[.int .i64 t141, .int .i64 t142] hb;replace HB := sBe HB hb;(try clear hb ho0))|((with_reducible refine gate_dst (N := 9) rfl ?_);refine bE 9 #[.int .i64 0, .int .i64 0] 24 ?_;intro gb149 hg w11 hbox hb;have BK149 := Aside0.mk (hbox);have GW149 := gBe HB hg;have GE149 := gBe HB hg;have NB143_149 := nL BK143 hg;have NB149_143 := nG BK143 hg;replace HO137 := rL HO137 hb;replace HO140 := rL HO140 hb;replace HO146 := rL HO146 hb;replace BK143 := lJ BK143 hb;replace HB := sBe HB hb;clear hb hbox hg;have hnb12 := eq_false NB149_143.out;have hnc12 := eq_false NB143_149.out;have hcz13_0 := hC BK149 0 (.int .i64 0);have hcz13_1 := hC BK149 1 (.int .i64 0);have hfz13_0 := blk_frozen BK149.out 0;have hfz13_1 := blk_frozen BK149.out 1)|(go_at_call 31;(with_reducible refine (worddiff_Tokens.calls a1 t150 t153 t154 _ A5.out).mono ?_);rintro e w14 ⟨v151, rfl, ho0, hb⟩;have HO152 := Aside0.mk (Kd.R_lower (Kd.R_new' ho0 (Kd.R_lt (by (with_reducible repeat first|apply rA|apply rN|apply rD);exact (Kd.R_mono (Kd.R_far (p := ⟨gb149, 1, none⟩) (Kd.R_far (p := ⟨gb149, 0, none⟩) (Kd.R_types HO146.out BK149.out (by decide)) (fun _ hk => hk.2) (.int .i64 t147)) (fun _ hk => hk.2) (.int .i64 t148)) (fun _ h_ => h_.1))))) (below_size eB));replace HO137 := Aside0.mk (Kd.R_below (by (with_reducible repeat first|apply rA|apply rN|apply rD);exact (Kd.R_mono (Kd.R_far (p := ⟨gb149, 1, none⟩) (Kd.R_far (p := ⟨gb149, 0, none⟩) (Kd.R_types HO137.out BK149.out (by decide)) (fun _ hk => hk.2) (.int .i64 t147)) (fun _ hk => hk.2) (.int .i64 t148)) (fun _ h_ => h_.1))) hb);replace HO140 := Aside0.mk (Kd.R_below (by (with_reducible repeat first|apply rA|apply rN|apply rD);exact (Kd.R_mono (Kd.R_far (p := ⟨gb149, 1, none⟩) (Kd.R_far (p := ⟨gb149, 0, none⟩) (Kd.R_types HO140.out BK149.out (by decide)) (fun _ hk => hk.2) (.int .i64 t147)) (fun _ hk => hk.2) (.int .i64 t148)) (fun _ h_ => h_.1))) hb);replace HO146 := Aside0.mk (Kd.R_elder' (by (with_reducible repeat first|apply rA|apply rN|apply rD);exact (Kd.R_mono (Kd.R_far (p := ⟨gb149, 1, none⟩) (Kd.R_far (p := ⟨gb149, 0, none⟩) (Kd.R_types HO146.out BK149.out (by decide)) (fun _ hk => hk.2) (.int .i64 t147)) (fun _ hk => hk.2) (.int .i64 t148)) (fun _ h_ => h_.1))) (Kd.R_base ho0) hb);replace BK143 := lJ BK143 hb;replace BK149 := lK gb149 24 #[.int .i64 t147, .int .i64 t148] hb;replace HB := sBe HB hb;(try clear hb ho0))|((with_reducible refine gate_dst (N := 11) rfl ?_);refine bE 11 #[.int .i64 0, .int .i64 0] 24 ?_;intro gb155 hg w15 hbox hb;have BK155 := Aside0.mk (hbox);have GW155 := gBe HB hg;have GE155 := gBe HB hg;have NB143_155 := nL BK143 hg;have NB155_143 := nG BK143 hg;have NB149_155 := nL BK149 hg;have NB155_149 := nG BK149 hg;replace HO137 := rL HO137 hb;replace HO140 := rL HO140 hb;replace HO146 := rL HO146 hb;replace HO152 := rL HO152 hb;replace BK143 := lJ BK143 hb;replace BK149 := lJ BK149 hb;replace HB := sBe HB hb;clear hb hbox hg;have hnb16 := eq_false NB155_143.out;have hnc16 := eq_false NB143_155.out;have hnb17 := eq_false NB155_149.out;have hnc17 := eq_false NB149_155.out;have hcz18_0 := hC BK155 0 (.int .i64 0);have hcz18_1 := hC BK155 1 (.int .i64 0);have hfz18_0 := blk_frozen BK155.out 0;have hfz18_1 := blk_frozen BK155.out 1)))
  (try simp only [Act.put, sA, sB, sC])
  go_cut [47] (fun v47 wc => ∃ (kq : Nat) (x47_5 : Bool), v47 = .bool x47_5 ∧ Aside0 (changeforgelaw1_WorddiffSymmetricWhole.j0 kq a0 a1 t135 t138 t144 t150 x47_5 = some r) ∧ Aside0 (kq ≤ k) ∧ Aside0 (Kd.R k95 95 wc w.heap.size (fun k_ => some k_ ≠ (v139 : Value).ownBlock) v136 t135) ∧ Aside0 (Kd.R k95 95 wc w.heap.size (fun k_ => some k_ ≠ (v136 : Value).ownBlock) v139 t138) ∧ Aside0 (Kd.R Kd.string 9 wc w.heap.size (fun k_ => some k_ ≠ (v151 : Value).ownBlock) v145 t144) ∧ Aside0 (Kd.R Kd.string 9 wc w.heap.size (fun k_ => some k_ ≠ (v145 : Value).ownBlock) v151 t150) ∧ Aside0 (wc.heap[gb143]? = some (.cells #[.int .i64 t141, .int .i64 t142] 24 (0, 0))) ∧ Aside0 (wc.heap[gb149]? = some (.cells #[.int .i64 t147, .int .i64 t148] 24 (0, 0))) ∧ Aside0 (wc.heap[gb155]? = some (.cells #[.int .i64 t153, .int .i64 t154] 24 (0, 0))) ∧ Aside0 (Below w.heap.size w wc))
  case first =>
    have H := HC6.out;clear HC6
    by_cases c19 : t141 = 0
    · rw [if_pos c19] at H;have c19b0 : (t141 == 0) = true := beq_iff_eq.mpr c19;have c19b1 : (t141 != 0) = false := bne_eq_false_iff_eq.mpr c19;clear c19
      (first|rw [c19b0]|(simp only [i64_w, i32_w];rw [c19b0])|skip)
      by_cases c20 : t147 = 0
      · rw [if_pos c20] at H;have c20b0 : (t147 == 0) = true := beq_iff_eq.mpr c20;have c20b1 : (t147 != 0) = false := bne_eq_false_iff_eq.mpr c20;clear c20;have H' := Aside0.mk H;clear H;have hnb21 := eq_false NB143_149.out;have hnc21 := eq_false NB149_143.out;have hnb22 := eq_false NB143_155.out;have hnc22 := eq_false NB155_143.out;have hcz23_0 := hC BK143 0 (.int .i64 t141);have hcz23_1 := hC BK143 1 (.int .i64 t142);have hfz23_0 := blk_frozen BK143.out 0;have hfz23_1 := blk_frozen BK143.out 1;have hnb24 := eq_false NB149_155.out;have hnc24 := eq_false NB155_149.out;have hcz25_0 := hC BK149 0 (.int .i64 t147);have hcz25_1 := hC BK149 1 (.int .i64 t148);have hfz25_0 := blk_frozen BK149.out 0;have hfz25_1 := blk_frozen BK149.out 1;have hcz26_0 := hC BK155 0 (.int .i64 0);have hcz26_1 := hC BK155 1 (.int .i64 0);have hfz26_0 := blk_frozen BK155.out 0;have hfz26_1 := blk_frozen BK155.out 1
        go_wp2
        repeat (go_quiet (fail);try go_wp2)
        go_meet
        case rel => exact ⟨_, ((t153 != 0)), (by first|rfl|(simp only [i64_w, i32_w];done)|(simp only [i64_w, i32_w];rfl)|(simp;done)|(simp [*];done)), H', ⟨by first|omega|exact Nat.le_refl _⟩, ⟨by (with_reducible repeat first|apply rA|apply rN|apply rD);exact Kd.R_mono (Kd.R_far (p := ⟨gb155, 1, none⟩) (Kd.R_far (p := ⟨gb155, 0, none⟩) (Kd.R_types HO137.out BK155.out (by decide)) (fun _ hk => hk.2) (.int .i64 t153)) (fun _ hk => hk.2) (.int .i64 t154)) (fun _ hk => hk.1)⟩, ⟨by (with_reducible repeat first|apply rA|apply rN|apply rD);exact Kd.R_mono (Kd.R_far (p := ⟨gb155, 1, none⟩) (Kd.R_far (p := ⟨gb155, 0, none⟩) (Kd.R_types HO140.out BK155.out (by decide)) (fun _ hk => hk.2) (.int .i64 t153)) (fun _ hk => hk.2) (.int .i64 t154)) (fun _ hk => hk.1)⟩, ⟨by (with_reducible repeat first|apply rA|apply rN|apply rD);exact Kd.R_mono (Kd.R_far (p := ⟨gb155, 1, none⟩) (Kd.R_far (p := ⟨gb155, 0, none⟩) (Kd.R_types HO146.out BK155.out (by decide)) (fun _ hk => hk.2) (.int .i64 t153)) (fun _ hk => hk.2) (.int .i64 t154)) (fun _ hk => hk.1.2)⟩, ⟨by (with_reducible repeat first|apply rA|apply rN|apply rD);exact Kd.R_mono (Kd.R_far (p := ⟨gb155, 1, none⟩) (Kd.R_far (p := ⟨gb155, 0, none⟩) (Kd.R_types HO152.out BK155.out (by decide)) (fun _ hk => hk.2) (.int .i64 t153)) (fun _ hk => hk.2) (.int .i64 t154)) (fun _ hk => hk.1.2)⟩, ⟨kK⟩, ⟨kK⟩, ⟨kK⟩, ⟨eB⟩⟩
      · rw [if_neg c20] at H;have c20b0 : (t147 == 0) = false := beq_eq_false_iff_ne.mpr c20;have c20b1 : (t147 != 0) = true := bne_iff_ne.mpr c20;have H' := Aside0.mk H;clear H;have hnb27 := eq_false NB143_149.out;have hnc27 := eq_false NB149_143.out;have hnb28 := eq_false NB143_155.out;have hnc28 := eq_false NB155_143.out;have hcz29_0 := hC BK143 0 (.int .i64 t141);have hcz29_1 := hC BK143 1 (.int .i64 t142);have hfz29_0 := blk_frozen BK143.out 0;have hfz29_1 := blk_frozen BK143.out 1;have hnb30 := eq_false NB149_155.out;have hnc30 := eq_false NB155_149.out;have hcz31_0 := hC BK149 0 (.int .i64 t147);have hcz31_1 := hC BK149 1 (.int .i64 t148);have hfz31_0 := blk_frozen BK149.out 0;have hfz31_1 := blk_frozen BK149.out 1
        go_wp2
        repeat (go_quiet (fail);try go_wp2)
        go_meet
        case rel => exact ⟨_, (true), (by first|rfl|(simp only [i64_w, i32_w];done)|(simp only [i64_w, i32_w];rfl)|(simp;done)|(simp [*];done)), H', ⟨by first|omega|exact Nat.le_refl _⟩, ⟨by (with_reducible repeat first|apply rA|apply rN|apply rD);exact Kd.R_mono (Kd.R_far (p := ⟨gb155, 1, none⟩) (Kd.R_far (p := ⟨gb155, 0, none⟩) (Kd.R_types HO137.out BK155.out (by decide)) (fun _ hk => hk.2) (.int .i64 t153)) (fun _ hk => hk.2) (.int .i64 t154)) (fun _ hk => hk.1)⟩, ⟨by (with_reducible repeat first|apply rA|apply rN|apply rD);exact Kd.R_mono (Kd.R_far (p := ⟨gb155, 1, none⟩) (Kd.R_far (p := ⟨gb155, 0, none⟩) (Kd.R_types HO140.out BK155.out (by decide)) (fun _ hk => hk.2) (.int .i64 t153)) (fun _ hk => hk.2) (.int .i64 t154)) (fun _ hk => hk.1)⟩, ⟨by (with_reducible repeat first|apply rA|apply rN|apply rD);exact Kd.R_mono (Kd.R_far (p := ⟨gb155, 1, none⟩) (Kd.R_far (p := ⟨gb155, 0, none⟩) (Kd.R_types HO146.out BK155.out (by decide)) (fun _ hk => hk.2) (.int .i64 t153)) (fun _ hk => hk.2) (.int .i64 t154)) (fun _ hk => hk.1.2)⟩, ⟨by (with_reducible repeat first|apply rA|apply rN|apply rD);exact Kd.R_mono (Kd.R_far (p := ⟨gb155, 1, none⟩) (Kd.R_far (p := ⟨gb155, 0, none⟩) (Kd.R_types HO152.out BK155.out (by decide)) (fun _ hk => hk.2) (.int .i64 t153)) (fun _ hk => hk.2) (.int .i64 t154)) (fun _ hk => hk.1.2)⟩, ⟨kK⟩, ⟨kK⟩, ⟨kK⟩, ⟨eB⟩⟩
    · rw [if_neg c19] at H;have c19b0 : (t141 == 0) = false := beq_eq_false_iff_ne.mpr c19;have c19b1 : (t141 != 0) = true := bne_iff_ne.mpr c19
      (first|rw [c19b0]|(simp only [i64_w, i32_w];rw [c19b0])|skip)
      have H' := Aside0.mk H;clear H;have hnb32 := eq_false NB143_149.out;have hnc32 := eq_false NB149_143.out;have hnb33 := eq_false NB143_155.out;have hnc33 := eq_false NB155_143.out;have hcz34_0 := hC BK143 0 (.int .i64 t141);have hcz34_1 := hC BK143 1 (.int .i64 t142);have hfz34_0 := blk_frozen BK143.out 0;have hfz34_1 := blk_frozen BK143.out 1
      go_wp2
      repeat (go_quiet (fail);try go_wp2)
      go_meet
      case rel => exact ⟨_, (true), (by first|rfl|(simp only [i64_w, i32_w];done)|(simp only [i64_w, i32_w];rfl)|(simp;done)|(simp [*];done)), H', ⟨by first|omega|exact Nat.le_refl _⟩, ⟨by (with_reducible repeat first|apply rA|apply rN|apply rD);exact Kd.R_mono (Kd.R_far (p := ⟨gb155, 1, none⟩) (Kd.R_far (p := ⟨gb155, 0, none⟩) (Kd.R_types HO137.out BK155.out (by decide)) (fun _ hk => hk.2) (.int .i64 t153)) (fun _ hk => hk.2) (.int .i64 t154)) (fun _ hk => hk.1)⟩, ⟨by (with_reducible repeat first|apply rA|apply rN|apply rD);exact Kd.R_mono (Kd.R_far (p := ⟨gb155, 1, none⟩) (Kd.R_far (p := ⟨gb155, 0, none⟩) (Kd.R_types HO140.out BK155.out (by decide)) (fun _ hk => hk.2) (.int .i64 t153)) (fun _ hk => hk.2) (.int .i64 t154)) (fun _ hk => hk.1)⟩, ⟨by (with_reducible repeat first|apply rA|apply rN|apply rD);exact Kd.R_mono (Kd.R_far (p := ⟨gb155, 1, none⟩) (Kd.R_far (p := ⟨gb155, 0, none⟩) (Kd.R_types HO146.out BK155.out (by decide)) (fun _ hk => hk.2) (.int .i64 t153)) (fun _ hk => hk.2) (.int .i64 t154)) (fun _ hk => hk.1.2)⟩, ⟨by (with_reducible repeat first|apply rA|apply rN|apply rD);exact Kd.R_mono (Kd.R_far (p := ⟨gb155, 1, none⟩) (Kd.R_far (p := ⟨gb155, 0, none⟩) (Kd.R_types HO152.out BK155.out (by decide)) (fun _ hk => hk.2) (.int .i64 t153)) (fun _ hk => hk.2) (.int .i64 t154)) (fun _ hk => hk.1.2)⟩, ⟨kK⟩, ⟨kK⟩, ⟨kK⟩, ⟨eB⟩⟩
  case rest =>
    clear HC6
    try clear c1
    try clear c2
    try clear p2
    try clear c3
    try clear c12
    try clear c13
    try clear c16
    try clear c17
    try clear c19
    try clear c19b0
    try clear c19b1
    try clear c20
    try clear c20b0
    try clear c20b1
    try clear c21
    try clear c22
    try clear c24
    try clear c27
    try clear c28
    try clear c30
    try clear c32
    try clear c33
    try clear hcz13_0
    try clear hcz13_1
    try clear hcz18_0
    try clear hcz18_1
    try clear hcz23_0
    try clear hcz23_1
    try clear hcz25_0
    try clear hcz25_1
    try clear hcz26_0
    try clear hcz26_1
    try clear hcz29_0
    try clear hcz29_1
    try clear hcz31_0
    try clear hcz31_1
    try clear hcz34_0
    try clear hcz34_1
    try clear hcz9_0
    try clear hcz9_1
    try clear hfz13_0
    try clear hfz13_1
    try clear hfz18_0
    try clear hfz18_1
    try clear hfz23_0
    try clear hfz23_1
    try clear hfz25_0
    try clear hfz25_1
    try clear hfz26_0
    try clear hfz26_1
    try clear hfz29_0
    try clear hfz29_1
    try clear hfz31_0
    try clear hfz31_1
    try clear hfz34_0
    try clear hfz34_1
    try clear hfz9_0
    try clear hfz9_1
    obtain ⟨kq, x47_5, rfl, HA, HJ5, HO_5, HO_6, HO_8, HO_10, BK143, BK149, BK155, HB⟩ := hcut
    cases kq with
    | zero => exact absurd HA.out (by simp [changeforgelaw1_WorddiffSymmetricWhole.j0])
    | succ kj5 =>
      have H := HA.out;clear HA;simp only [changeforgelaw1_WorddiffSymmetricWhole.j0] at H
      by_cases c35 : x47_5 = true
      · subst c35;have H1 : ((changeforgelaw1_split.f).bind fun t156 => (some t156)) = some r := (by rw [if_pos rfl] at H;exact H);clear H;have H := H1;clear H1;replace H := Option.bind_eq_some_iff.mp H;obtain ⟨t156, A360, H⟩ := H;replace H : (some t156) = some r := H;have A36 := Aside0.mk A360;clear A360;obtain rfl := Option.some.inj H
        go_wp2_with (first|(go_at_call 32;(with_reducible refine (changeforgelaw1_split.calls  t156 _ A36.out).mono ?_);rintro e w37 ⟨rfl, hb⟩;replace HO_5 := rL HO_5 hb;replace HO_6 := rL HO_6 hb;replace HO_8 := rL HO_8 hb;replace HO_10 := rL HO_10 hb;replace BK143 := lJ BK143 hb;replace BK149 := lJ BK149 hb;replace BK155 := lJ BK155 hb;replace HB := sBe HB hb;(try clear hb)))
        repeat (go_quiet (first|(go_at_call 32;(with_reducible refine (changeforgelaw1_split.calls  t156 _ A36.out).mono ?_);rintro e w37 ⟨rfl, hb⟩;replace HO_5 := rL HO_5 hb;replace HO_6 := rL HO_6 hb;replace HO_8 := rL HO_8 hb;replace HO_10 := rL HO_10 hb;replace BK143 := lJ BK143 hb;replace BK149 := lJ BK149 hb;replace BK155 := lJ BK155 hb;replace HB := sBe HB hb;(try clear hb)));try go_wp2_with (first|(go_at_call 32;(with_reducible refine (changeforgelaw1_split.calls  t156 _ A36.out).mono ?_);rintro e w37 ⟨rfl, hb⟩;replace HO_5 := rL HO_5 hb;replace HO_6 := rL HO_6 hb;replace HO_8 := rL HO_8 hb;replace HO_10 := rL HO_10 hb;replace BK143 := lJ BK143 hb;replace BK149 := lJ BK149 hb;replace BK155 := lJ BK155 hb;replace HB := sBe HB hb;(try clear hb))))
        go_ret
        exact ⟨rW, eB⟩
      · replace c35 := Bool.eq_false_iff.mpr c35;subst c35;have H1 : (changeforgelaw1_WorddiffSymmetricWhole.l0 kj5 a0 a1 t135 t138 t144 t150 0) = some r := (by rw [if_neg (show ¬ (false = true) by decide)] at H;exact H);clear H;have H := H1;clear H1;have H' := Aside0.mk H;clear H
        go_wp2
        repeat (go_quiet (fail);try go_wp2)
        go_loopg [12] kj5 (fun kq v12 w' => ∃ (x12_2 : Int), v12 = .int .i64 x12_2 ∧ Aside0 (changeforgelaw1_WorddiffSymmetricWhole.l0 kq a0 a1 t135 t138 t144 t150 x12_2 = some r) ∧ Aside0 (kq ≤ kj5) ∧ Aside0 (Kd.R k95 95 w' w.heap.size (fun k_ => some k_ ≠ (v139 : Value).ownBlock) v136 t135) ∧ Aside0 (Kd.R k95 95 w' w.heap.size (fun k_ => some k_ ≠ (v136 : Value).ownBlock) v139 t138) ∧ Aside0 (Kd.R Kd.string 9 w' w.heap.size (fun k_ => some k_ ≠ (v151 : Value).ownBlock) v145 t144) ∧ Aside0 (Kd.R Kd.string 9 w' w.heap.size (fun k_ => some k_ ≠ (v145 : Value).ownBlock) v151 t150) ∧ Bk w' gb143 24 #[.int .i64 t141, .int .i64 t142] ∧ Bk w' gb149 24 #[.int .i64 t147, .int .i64 t148] ∧ Bk w' gb155 24 #[.int .i64 t153, .int .i64 t154] ∧ Aside0 (Below w.heap.size w w'))
        case atStart => exact ⟨(0), (by first|rfl|(simp only [i64_w, i32_w];done)|(simp only [i64_w, i32_w];rfl)|(simp;done)|(simp [*];done)), H', ⟨Nat.le_refl _⟩, ⟨by (with_reducible repeat first|apply rA|apply rN|apply rD);exact HO_5.out⟩, ⟨by (with_reducible repeat first|apply rA|apply rN|apply rD);exact HO_6.out⟩, ⟨by (with_reducible repeat first|apply rA|apply rN|apply rD);exact HO_8.out⟩, ⟨by (with_reducible repeat first|apply rA|apply rN|apply rD);exact HO_10.out⟩, ⟨kK⟩, ⟨kK⟩, ⟨kK⟩, ⟨eB⟩⟩
        case round =>
          clear H'
          try clear c1
          try clear c2
          try clear p2
          try clear c3
          try clear c12
          try clear c13
          try clear c16
          try clear c17
          try clear c19
          try clear c19b0
          try clear c19b1
          try clear c20
          try clear c20b0
          try clear c20b1
          try clear c21
          try clear c22
          try clear c24
          try clear c27
          try clear c28
          try clear c30
          try clear c32
          try clear c33
          try clear c35
          try clear hcz13_0
          try clear hcz13_1
          try clear hcz18_0
          try clear hcz18_1
          try clear hcz23_0
          try clear hcz23_1
          try clear hcz25_0
          try clear hcz25_1
          try clear hcz26_0
          try clear hcz26_1
          try clear hcz29_0
          try clear hcz29_1
          try clear hcz31_0
          try clear hcz31_1
          try clear hcz34_0
          try clear hcz34_1
          try clear hcz9_0
          try clear hcz9_1
          try clear hfz13_0
          try clear hfz13_1
          try clear hfz18_0
          try clear hfz18_1
          try clear hfz23_0
          try clear hfz23_1
          try clear hfz25_0
          try clear hfz25_1
          try clear hfz26_0
          try clear hfz26_1
          try clear hfz29_0
          try clear hfz29_1
          try clear hfz31_0
          try clear hfz31_1
          try clear hfz34_0
          try clear hfz34_1
          try clear hfz9_0
          try clear hfz9_1
          try clear p2
          obtain ⟨x12_2, rfl, HA, HK2, HO_5, HO_6, HO_8, HO_10, BK143, BK149, BK155, HB⟩ := hrel
          cases gk with
          | zero => exact absurd HA.out (by simp [changeforgelaw1_WorddiffSymmetricWhole.l0])
          | succ k2 =>
            have H := HA.out;clear HA;simp only [changeforgelaw1_WorddiffSymmetricWhole.l0] at H
            by_cases c38 : x12_2 < (t144.length : Int)
            · rw [if_pos c38] at H;have c38b0 : decide (x12_2 < (t144.length : Int)) = true := decide_eq_true c38;clear c38;have H' := Aside0.mk H;clear H;obtain ⟨Ao39, co39, eo39⟩ := Kd.R_slice HO_8.out;subst eo39
              go_wp2
              repeat (go_quiet (fail);try go_wp2)
              go_loopg [13] k2 (fun kq v13 w' => ∃ (x13_3 : Int), v13 = .int .i64 x13_3 ∧ Aside0 (changeforgelaw1_WorddiffSymmetricWhole.l1 kq a0 a1 t135 t138 t144 t150 x12_2 x13_3 = some r) ∧ Aside0 (kq ≤ k2) ∧ Aside0 (Kd.R k95 95 w' w.heap.size (fun k_ => some k_ ≠ (v139 : Value).ownBlock) v136 t135) ∧ Aside0 (Kd.R k95 95 w' w.heap.size (fun k_ => some k_ ≠ (v136 : Value).ownBlock) v139 t138) ∧ Aside0 (Kd.R Kd.string 9 w' w.heap.size (fun k_ => some k_ ≠ (v151 : Value).ownBlock) (.slice Ao39 t144.length co39) t144) ∧ Aside0 (Kd.R Kd.string 9 w' w.heap.size (fun k_ => some k_ ≠ ((.slice Ao39 t144.length co39) : Value).ownBlock) v151 t150) ∧ Bk w' gb143 24 #[.int .i64 t141, .int .i64 t142] ∧ Bk w' gb149 24 #[.int .i64 t147, .int .i64 t148] ∧ Bk w' gb155 24 #[.int .i64 t153, .int .i64 t154] ∧ Aside0 (Below w.heap.size w w'))
              case atStart => exact ⟨(0), (by first|rfl|(simp only [i64_w, i32_w];done)|(simp only [i64_w, i32_w];rfl)|(simp;done)|(simp [*];done)), H', ⟨Nat.le_refl _⟩, ⟨by (with_reducible repeat first|apply rA|apply rN|apply rD);exact HO_5.out⟩, ⟨by (with_reducible repeat first|apply rA|apply rN|apply rD);exact HO_6.out⟩, ⟨by (with_reducible repeat first|apply rA|apply rN|apply rD);exact HO_8.out⟩, ⟨by (with_reducible repeat first|apply rA|apply rN|apply rD);exact HO_10.out⟩, ⟨kK⟩, ⟨kK⟩, ⟨kK⟩, ⟨eB⟩⟩
              case round =>
                clear H'
                try clear c1
                try clear c2
                try clear p2
                try clear c3
                try clear c12
                try clear c13
                try clear c16
                try clear c17
                try clear c19
                try clear c19b0
                try clear c19b1
                try clear c20
                try clear c20b0
                try clear c20b1
                try clear c21
                try clear c22
                try clear c24
                try clear c27
                try clear c28
                try clear c30
                try clear c32
                try clear c33
                try clear c35
                try clear c38
                try clear c38b0
                try clear hcz13_0
                try clear hcz13_1
                try clear hcz18_0
                try clear hcz18_1
                try clear hcz23_0
                try clear hcz23_1
                try clear hcz25_0
                try clear hcz25_1
                try clear hcz26_0
                try clear hcz26_1
                try clear hcz29_0
                try clear hcz29_1
                try clear hcz31_0
                try clear hcz31_1
                try clear hcz34_0
                try clear hcz34_1
                try clear hcz9_0
                try clear hcz9_1
                try clear hfz13_0
                try clear hfz13_1
                try clear hfz18_0
                try clear hfz18_1
                try clear hfz23_0
                try clear hfz23_1
                try clear hfz25_0
                try clear hfz25_1
                try clear hfz26_0
                try clear hfz26_1
                try clear hfz29_0
                try clear hfz29_1
                try clear hfz31_0
                try clear hfz31_1
                try clear hfz34_0
                try clear hfz34_1
                try clear hfz9_0
                try clear hfz9_1
                try clear p2
                obtain ⟨x13_3, rfl, HA, HK3, HO_5, HO_6, HO_8, HO_10, BK143, BK149, BK155, HB⟩ := hrel
                cases gk with
                | zero => exact absurd HA.out (by simp [changeforgelaw1_WorddiffSymmetricWhole.l1])
                | succ k3 =>
                  have H := HA.out;clear HA;simp only [changeforgelaw1_WorddiffSymmetricWhole.l1] at H
                  by_cases c40 : x13_3 < (t150.length : Int)
                  · rw [if_pos c40] at H;have c40b0 : decide (x13_3 < (t150.length : Int)) = true := decide_eq_true c40;clear c40
                    by_cases c41 : 0 ≤ x12_2
                    · rw [if_pos c41] at H;have c41b0 : decide (0 ≤ x12_2) = true := decide_eq_true c41;clear c41
                      by_cases c42 : x12_2 < (t144.length : Int)
                      · rw [if_pos c42] at H;have c42b0 : decide (x12_2 < (t144.length : Int)) = true := decide_eq_true c42;clear c42
                        by_cases c43 : 0 ≤ x13_3
                        · rw [if_pos c43] at H;have c43b0 : decide (0 ≤ x13_3) = true := decide_eq_true c43;clear c43
                          by_cases c44 : (rdOf ByteArray.empty t144 x12_2).toList = (rdOf ByteArray.empty t150 x13_3).toList
                          · rw [if_pos c44] at H;have c44b0 : ((rdOf ByteArray.empty t144 x12_2).toList == (rdOf ByteArray.empty t150 x13_3).toList) = true := beq_iff_eq.mpr c44;have c44b1 : ((rdOf ByteArray.empty t144 x12_2).toList != (rdOf ByteArray.empty t150 x13_3).toList) = false := bne_eq_false_iff_eq.mpr c44;clear c44;replace H := Option.bind_eq_some_iff.mp H;obtain ⟨t164, A450, H⟩ := H;replace H : (some t164) = some r := H;have A45 := Aside0.mk A450;clear A450;obtain rfl := Option.some.inj H;obtain ⟨Ao46, co46, eo46⟩ := Kd.R_slice HO_10.out;subst eo46;have p162 : 0 ≤ (x12_2 : Int) := dA;have q162 : x12_2 < (t144.length : Int) := dA;obtain ⟨ad162, e162, hx162_0⟩ := Kd.at_string (Kd.R_reads' HO_8.out).2.2 x12_2 p162 q162
                            cases e162
                            replace p162 := eq_true p162;replace q162 := eq_true q162;have p163 : 0 ≤ (x13_3 : Int) := dA;have q163 : x13_3 < (t150.length : Int) := dA;obtain ⟨ad163, e163, hx163_0⟩ := Kd.at_string (Kd.R_reads' HO_10.out).2.2 x13_3 p163 q163
                            cases e163
                            replace p163 := eq_true p163;replace q163 := eq_true q163
                            go_wp2_with (first|(go_at_call 32;(with_reducible refine (changeforgelaw1_split.calls  t164 _ A45.out).mono ?_);rintro e w47 ⟨rfl, hb⟩;replace HO_5 := rL HO_5 hb;replace HO_6 := rL HO_6 hb;replace HO_8 := rL HO_8 hb;replace HO_10 := rL HO_10 hb;replace BK143 := lJ BK143 hb;replace BK149 := lJ BK149 hb;replace BK155 := lJ BK155 hb;replace HB := sBe HB hb;(try clear hb)))
                            repeat (go_quiet (first|(go_at_call 32;(with_reducible refine (changeforgelaw1_split.calls  t164 _ A45.out).mono ?_);rintro e w47 ⟨rfl, hb⟩;replace HO_5 := rL HO_5 hb;replace HO_6 := rL HO_6 hb;replace HO_8 := rL HO_8 hb;replace HO_10 := rL HO_10 hb;replace BK143 := lJ BK143 hb;replace BK149 := lJ BK149 hb;replace BK155 := lJ BK155 hb;replace HB := sBe HB hb;(try clear hb)));try go_wp2_with (first|(go_at_call 32;(with_reducible refine (changeforgelaw1_split.calls  t164 _ A45.out).mono ?_);rintro e w47 ⟨rfl, hb⟩;replace HO_5 := rL HO_5 hb;replace HO_6 := rL HO_6 hb;replace HO_8 := rL HO_8 hb;replace HO_10 := rL HO_10 hb;replace BK143 := lJ BK143 hb;replace BK149 := lJ BK149 hb;replace BK155 := lJ BK155 hb;replace HB := sBe HB hb;(try clear hb))))
                            go_ret
                            exact ⟨rW, eB⟩
                          · rw [if_neg c44] at H;have c44b0 : ((rdOf ByteArray.empty t144 x12_2).toList == (rdOf ByteArray.empty t150 x13_3).toList) = false := beq_eq_false_iff_ne.mpr c44;have c44b1 : ((rdOf ByteArray.empty t144 x12_2).toList != (rdOf ByteArray.empty t150 x13_3).toList) = true := bne_iff_ne.mpr c44;have H' := Aside0.mk H;clear H;obtain ⟨Ao48, co48, eo48⟩ := Kd.R_slice HO_10.out;subst eo48;have p162 : 0 ≤ (x12_2 : Int) := dA;have q162 : x12_2 < (t144.length : Int) := dA;obtain ⟨ad162, e162, hx162_0⟩ := Kd.at_string (Kd.R_reads' HO_8.out).2.2 x12_2 p162 q162
                            cases e162
                            replace p162 := eq_true p162;replace q162 := eq_true q162;have p163 : 0 ≤ (x13_3 : Int) := dA;have q163 : x13_3 < (t150.length : Int) := dA;obtain ⟨ad163, e163, hx163_0⟩ := Kd.at_string (Kd.R_reads' HO_10.out).2.2 x13_3 p163 q163
                            cases e163
                            replace p163 := eq_true p163;replace q163 := eq_true q163
                            go_wp2
                            repeat (go_quiet (fail);try go_wp2)
                            go_roundg k3
                            case measure => have := HJ5.out;have := HK2.out;have := HK3.out;omega
                            case rel => exact ⟨(wrap64 (x13_3 + 1)), (by first|rfl|(simp only [i64_w, i32_w];done)|(simp only [i64_w, i32_w];rfl)|(simp;done)|(simp [*];done)), H', ⟨by have := HJ5.out;have := HK2.out;have := HK3.out;omega⟩, ⟨by (with_reducible repeat first|apply rA|apply rN|apply rD);exact HO_5.out⟩, ⟨by (with_reducible repeat first|apply rA|apply rN|apply rD);exact HO_6.out⟩, ⟨by (with_reducible repeat first|apply rA|apply rN|apply rD);exact HO_8.out⟩, ⟨by (with_reducible repeat first|apply rA|apply rN|apply rD);exact HO_10.out⟩, ⟨kK⟩, ⟨kK⟩, ⟨kK⟩, ⟨eB⟩⟩
                        · rw [if_neg c43] at H;exact absurd H (by simp)
                      · rw [if_neg c42] at H;exact absurd H (by simp)
                    · rw [if_neg c41] at H;exact absurd H (by simp)
                  · rw [if_neg c40] at H;have c40b0 : decide (x13_3 < (t150.length : Int)) = false := decide_eq_false c40;clear c40;have H' := Aside0.mk H;clear H;obtain ⟨Ao49, co49, eo49⟩ := Kd.R_slice HO_10.out;subst eo49
                    go_wp2
                    repeat (go_quiet (fail);try go_wp2)
                    go_roundg k3
                    case measure => have := HJ5.out;have := HK2.out;have := HK3.out;omega
                    case rel => exact ⟨(wrap64 (x12_2 + 1)), (by first|rfl|(simp only [i64_w, i32_w];done)|(simp only [i64_w, i32_w];rfl)|(simp;done)|(simp [*];done)), H', ⟨by have := HJ5.out;have := HK2.out;have := HK3.out;omega⟩, ⟨by (with_reducible repeat first|apply rA|apply rN|apply rD);exact HO_5.out⟩, ⟨by (with_reducible repeat first|apply rA|apply rN|apply rD);exact HO_6.out⟩, ⟨by (with_reducible repeat first|apply rA|apply rN|apply rD);exact HO_8.out⟩, ⟨by (with_reducible repeat first|apply rA|apply rN|apply rD);exact HO_10.out⟩, ⟨kK⟩, ⟨kK⟩, ⟨kK⟩, ⟨eB⟩⟩
            · rw [if_neg c38] at H;have c38b0 : decide (x12_2 < (t144.length : Int)) = false := decide_eq_false c38;clear c38;replace H := Option.bind_eq_some_iff.mp H;obtain ⟨⟨t157, t158⟩, A500, H⟩ := H;replace H : ((changeforgelaw1_rest.f k2 a1 t138).bind fun bt159 => (if t158 = true then (if bt159.2 = true then (if t157.toList = ([] : List UInt8) then (if bt159.1.toList = ([] : List UInt8) then ((changeforgelaw1_split.f).bind fun t161 => (some t161)) else (some false)) else (some false)) else (some false)) else (some false))) = some r := H;have A50 := Aside0.mk A500;clear A500;replace H := Option.bind_eq_some_iff.mp H;obtain ⟨⟨t159, t160⟩, A510, H⟩ := H;replace H : (if t158 = true then (if t160 = true then (if t157.toList = ([] : List UInt8) then (if t159.toList = ([] : List UInt8) then ((changeforgelaw1_split.f).bind fun t161 => (some t161)) else (some false)) else (some false)) else (some false)) else (some false)) = some r := H;have A51 := Aside0.mk A510;clear A510
              by_cases c52 : t158 = true
              · subst c52;have H1 : (if t160 = true then (if t157.toList = ([] : List UInt8) then (if t159.toList = ([] : List UInt8) then ((changeforgelaw1_split.f).bind fun t161 => (some t161)) else (some false)) else (some false)) else (some false)) = some r := (by rw [if_pos rfl] at H;exact H);clear H;have H := H1;clear H1
                by_cases c53 : t160 = true
                · subst c53;have H1 : (if t157.toList = ([] : List UInt8) then (if t159.toList = ([] : List UInt8) then ((changeforgelaw1_split.f).bind fun t161 => (some t161)) else (some false)) else (some false)) = some r := (by rw [if_pos rfl] at H;exact H);clear H;have H := H1;clear H1
                  by_cases c54 : t157.toList = ([] : List UInt8)
                  · rw [if_pos c54] at H;have c54b0 : (t157.toList == ([] : List UInt8)) = true := beq_iff_eq.mpr c54;have c54b1 : (t157.toList != ([] : List UInt8)) = false := bne_eq_false_iff_eq.mpr c54;clear c54
                    by_cases c55 : t159.toList = ([] : List UInt8)
                    · rw [if_pos c55] at H;have c55b0 : (t159.toList == ([] : List UInt8)) = true := beq_iff_eq.mpr c55;have c55b1 : (t159.toList != ([] : List UInt8)) = false := bne_eq_false_iff_eq.mpr c55;clear c55;replace H := Option.bind_eq_some_iff.mp H;obtain ⟨t161, A560, H⟩ := H;replace H : (some t161) = some r := H;have A56 := Aside0.mk A560;clear A560;obtain rfl := Option.some.inj H;obtain ⟨Ao57, co57, eo57⟩ := Kd.R_slice HO_8.out;subst eo57;obtain ⟨Ao58, co58, eo58⟩ := Kd.R_slice HO_5.out;subst eo58
                      go_wp2_with (first|(go_at_call 40;(with_reducible refine (changeforgelaw1_rest.calls k2 a0 _ _ t135 t157 true _ ?side1 ?side2 A50.out).mono ?_);(case side1 => repeat (first|exact (Kd.R_reads' HO_5.out).2.2|(with_reducible refine Kd.C_alloc ?_ _)|(with_reducible refine Kd.C_drewN ?_ _)|(with_reducible refine Kd.C_drew ?_)));(case side2 => exact (Kd.R_reads' HO_5.out).2.1);rintro e w' ⟨rfl, ⟨nd, rfl⟩⟩;(try first|exact ⟨rfl, _, World.drewN_drewN _ _ _⟩|exact ⟨rfl, _, Eq.trans (World.drewN_drewN _ _ _) (congrArg (World.drewN _) (Nat.add_assoc _ _ _))⟩);obtain ⟨Ao59, co59, eo59⟩ := Kd.R_slice HO_6.out;subst eo59)|(go_at_call 40;(with_reducible refine (changeforgelaw1_rest.calls k2 a1 _ _ t138 t159 true _ ?side1 ?side2 A51.out).mono ?_);(case side1 => repeat (first|exact (Kd.R_reads' HO_6.out).2.2|(with_reducible refine Kd.C_alloc ?_ _)|(with_reducible refine Kd.C_drewN ?_ _)|(with_reducible refine Kd.C_drew ?_)));(case side2 => exact (Kd.R_reads' HO_6.out).2.1);rintro e w' ⟨rfl, ⟨nd, rfl⟩⟩;(try first|exact ⟨rfl, _, World.drewN_drewN _ _ _⟩|exact ⟨rfl, _, Eq.trans (World.drewN_drewN _ _ _) (congrArg (World.drewN _) (Nat.add_assoc _ _ _))⟩))|(go_at_call 32;(with_reducible refine (changeforgelaw1_split.calls  t161 _ A56.out).mono ?_);rintro e w60 ⟨rfl, hb⟩;replace HO_5 := rL HO_5 hb;replace HO_6 := rL HO_6 hb;replace HO_8 := rL HO_8 hb;replace HO_10 := rL HO_10 hb;replace BK143 := lJ BK143 hb;replace BK149 := lJ BK149 hb;replace BK155 := lJ BK155 hb;replace HB := sBe HB hb;(try clear hb)))
                      repeat (go_quiet (first|(go_at_call 40;(with_reducible refine (changeforgelaw1_rest.calls k2 a0 _ _ t135 t157 true _ ?side1 ?side2 A50.out).mono ?_);(case side1 => repeat (first|exact (Kd.R_reads' HO_5.out).2.2|(with_reducible refine Kd.C_alloc ?_ _)|(with_reducible refine Kd.C_drewN ?_ _)|(with_reducible refine Kd.C_drew ?_)));(case side2 => exact (Kd.R_reads' HO_5.out).2.1);rintro e w' ⟨rfl, ⟨nd, rfl⟩⟩;(try first|exact ⟨rfl, _, World.drewN_drewN _ _ _⟩|exact ⟨rfl, _, Eq.trans (World.drewN_drewN _ _ _) (congrArg (World.drewN _) (Nat.add_assoc _ _ _))⟩);obtain ⟨Ao59, co59, eo59⟩ := Kd.R_slice HO_6.out;subst eo59)|(go_at_call 40;(with_reducible refine (changeforgelaw1_rest.calls k2 a1 _ _ t138 t159 true _ ?side1 ?side2 A51.out).mono ?_);(case side1 => repeat (first|exact (Kd.R_reads' HO_6.out).2.2|(with_reducible refine Kd.C_alloc ?_ _)|(with_reducible refine Kd.C_drewN ?_ _)|(with_reducible refine Kd.C_drew ?_)));(case side2 => exact (Kd.R_reads' HO_6.out).2.1);rintro e w' ⟨rfl, ⟨nd, rfl⟩⟩;(try first|exact ⟨rfl, _, World.drewN_drewN _ _ _⟩|exact ⟨rfl, _, Eq.trans (World.drewN_drewN _ _ _) (congrArg (World.drewN _) (Nat.add_assoc _ _ _))⟩))|(go_at_call 32;(with_reducible refine (changeforgelaw1_split.calls  t161 _ A56.out).mono ?_);rintro e w60 ⟨rfl, hb⟩;replace HO_5 := rL HO_5 hb;replace HO_6 := rL HO_6 hb;replace HO_8 := rL HO_8 hb;replace HO_10 := rL HO_10 hb;replace BK143 := lJ BK143 hb;replace BK149 := lJ BK149 hb;replace BK155 := lJ BK155 hb;replace HB := sBe HB hb;(try clear hb)));try go_wp2_with (first|(go_at_call 40;(with_reducible refine (changeforgelaw1_rest.calls k2 a0 _ _ t135 t157 true _ ?side1 ?side2 A50.out).mono ?_);(case side1 => repeat (first|exact (Kd.R_reads' HO_5.out).2.2|(with_reducible refine Kd.C_alloc ?_ _)|(with_reducible refine Kd.C_drewN ?_ _)|(with_reducible refine Kd.C_drew ?_)));(case side2 => exact (Kd.R_reads' HO_5.out).2.1);rintro e w' ⟨rfl, ⟨nd, rfl⟩⟩;(try first|exact ⟨rfl, _, World.drewN_drewN _ _ _⟩|exact ⟨rfl, _, Eq.trans (World.drewN_drewN _ _ _) (congrArg (World.drewN _) (Nat.add_assoc _ _ _))⟩);obtain ⟨Ao59, co59, eo59⟩ := Kd.R_slice HO_6.out;subst eo59)|(go_at_call 40;(with_reducible refine (changeforgelaw1_rest.calls k2 a1 _ _ t138 t159 true _ ?side1 ?side2 A51.out).mono ?_);(case side1 => repeat (first|exact (Kd.R_reads' HO_6.out).2.2|(with_reducible refine Kd.C_alloc ?_ _)|(with_reducible refine Kd.C_drewN ?_ _)|(with_reducible refine Kd.C_drew ?_)));(case side2 => exact (Kd.R_reads' HO_6.out).2.1);rintro e w' ⟨rfl, ⟨nd, rfl⟩⟩;(try first|exact ⟨rfl, _, World.drewN_drewN _ _ _⟩|exact ⟨rfl, _, Eq.trans (World.drewN_drewN _ _ _) (congrArg (World.drewN _) (Nat.add_assoc _ _ _))⟩))|(go_at_call 32;(with_reducible refine (changeforgelaw1_split.calls  t161 _ A56.out).mono ?_);rintro e w60 ⟨rfl, hb⟩;replace HO_5 := rL HO_5 hb;replace HO_6 := rL HO_6 hb;replace HO_8 := rL HO_8 hb;replace HO_10 := rL HO_10 hb;replace BK143 := lJ BK143 hb;replace BK149 := lJ BK149 hb;replace BK155 := lJ BK155 hb;replace HB := sBe HB hb;(try clear hb))))
                      go_ret
                      exact ⟨rW, eB⟩
                    · rw [if_neg c55] at H;have c55b0 : (t159.toList == ([] : List UInt8)) = false := beq_eq_false_iff_ne.mpr c55;have c55b1 : (t159.toList != ([] : List UInt8)) = true := bne_iff_ne.mpr c55;obtain rfl := Option.some.inj H;exact absurd hrt (by decide)
                  · rw [if_neg c54] at H;have c54b0 : (t157.toList == ([] : List UInt8)) = false := beq_eq_false_iff_ne.mpr c54;have c54b1 : (t157.toList != ([] : List UInt8)) = true := bne_iff_ne.mpr c54;obtain rfl := Option.some.inj H;exact absurd hrt (by decide)
                · replace c53 := Bool.eq_false_iff.mpr c53;subst c53;have H1 : (some false) = some r := (by rw [if_neg (show ¬ (false = true) by decide)] at H;exact H);clear H;have H := H1;clear H1;obtain rfl := Option.some.inj H;exact absurd hrt (by decide)
              · replace c52 := Bool.eq_false_iff.mpr c52;subst c52;have H1 : (some false) = some r := (by rw [if_neg (show ¬ (false = true) by decide)] at H;exact H);clear H;have H := H1;clear H1;obtain rfl := Option.some.inj H;exact absurd hrt (by decide)
/-- THE ONE PURE STATEMENT of changeforgelaw1_WorddiffSymmetricWhole: yours. -/
def changeforgelaw1_WorddiffSymmetricWhole.Pure : Prop := ∀ (a0 : ByteArray) (a1 : ByteArray), a0.size ≤ 140737488351232 → a1.size ≤ 140737488351232 → ∃ k, changeforgelaw1_WorddiffSymmetricWhole.f k a0 a1 = some true
theorem changeforgelaw1_WorddiffSymmetricWhole.walk (P : changeforgelaw1_WorddiffSymmetricWhole.Pure) (a0 : ByteArray) (a1 : ByteArray) (w : World) (hw0 : a0.size ≤ 140737488351232) (hw1 : a1.size ≤ 140737488351232) :
    Calls Try.prog 13 #[.string a0, .string a1] w fun e w' => e = .returned (.bool true) ∧ Below w.heap.size w w' := by
  obtain ⟨k, h⟩ := P a0 a1 hw0 hw1;refine (changeforgelaw1_WorddiffSymmetricWhole.calls k a0 a1 true w h rfl).mono ?_
  rintro e w' ⟨rfl, hd⟩
  exact ⟨rfl, hd⟩

end Go.Proofs.Ytifkadmljokffaa.PS
