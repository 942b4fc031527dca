/- Printed by a program of this session out of the translation: Lean functions for Go functions, and proofs that the Go functions answer the same. -/
import Derived.Test.YtdnnkhogpobjbaaPU0
import Derived.Test.YtdnnkhogpobjbaaPU1
import Derived.Test.YtdnnkhogpobjbaaPU2
namespace Go.Proofs.Ytdnnkhogpobjbaa.PU
open Go.RowKit Go.Proofs.Ytdnnkhogpobjbaa.Pre Go.Proofs.YtdnnkhogpobjbaaW.PrintWords Go.Proofs.YtdnnkhogpobjbaaW.PrintLast Go.Proofs.YtdnnkhogpobjbaaW.PrintMore
attribute [local go_sem] max2_int min2_int max_two min_two max_three min_three max_four min_four   -- for this text's walks alone
set_option linter.unusedVariables false
set_option linter.unusedSimpArgs false

attribute [local go_sem high] eqA27
/-! ### textpatch_Apply_0: function 15 -/
def textpatch_Apply_0.l0 : Nat → List ByteArray → List ByteArray → Int → List (S47) → Int → Int → Option (List ByteArray × Int × Int)
  | 0, _, _, _, _, _, _ => none
  | k + 1, x1, x8, x9, x25, x26, x27 => if x27 < x26 then (if 0 ≤ x27 then (if x27 < (x25.length : Int) then ((textpatch_End.f ((rd_T47 x25 x27).f0) ((rd_T47 x25 x27).f1) ((rd_T47 x25 x27).f2)).bind fun t133 => (if t133 > (x1.length : Int) then (some (([] : List ByteArray), 19, x27)) else ((textpatch_End.f ((rd_T47 x25 x27).f0) ((rd_T47 x25 x27).f1) ((rd_T47 x25 x27).f2)).bind fun t134 => (if 0 ≤ ((rd_T47 x25 x27).f0) then (if ((rd_T47 x25 x27).f0) ≤ t134 then (if t134 ≤ (x1.length : Int) then ((slices_Equal_string_string.f ((x1.take (t134 : Int).toNat).drop (((rd_T47 x25 x27).f0) : Int).toNat) ((rd_T47 x25 x27).f1)).bind fun t136 => (if t136 = true then (if 0 ≤ x9 then (if x9 ≤ ((rd_T47 x25 x27).f0) then (if ((rd_T47 x25 x27).f0) ≤ (x1.length : Int) then (if x8.length + ((x1.take (((rd_T47 x25 x27).f0) : Int).toNat).drop (x9 : Int).toNat).length < 8796093022208 then ((some (x8 ++ ((x1.take (((rd_T47 x25 x27).f0) : Int).toNat).drop (x9 : Int).toNat) : List ByteArray)).bind fun y138 => (if y138.length + ((rd_T47 x25 x27).f2).length < 8796093022208 then ((textpatch_End.f ((rd_T47 x25 x27).f0) ((rd_T47 x25 x27).f1) ((rd_T47 x25 x27).f2)).bind fun t144 => (textpatch_Apply_0.l0 k x1 (y138 ++ ((rd_T47 x25 x27).f2)) t144 x25 x26 (wrap64 (x27 + 1)))) else (none))) else (none)) else (none)) else (none)) else (none)) else (some (([] : List ByteArray), 19, x27)))) else (none)) else (none)) else (none))))) else (none)) else (none)) else (if 0 ≤ x9 then (if x9 ≤ (x1.length : Int) then (if x8.length + (x1.drop (x9 : Int).toNat).length < 8796093022208 then ((some (x8 ++ (x1.drop (x9 : Int).toNat) : List ByteArray)).bind fun y128 => (if (y128.length : Int) > 120 then (some (([] : List ByteArray), 10, (-1))) else (some (y128, 0, 0)))) else (none)) else (none)) else (none))
def textpatch_Apply_0.f (k : Nat) (l0_0 : List (S47)) (l1 : List ByteArray) : Option (List ByteArray × Int × Int) := (textpatch_Validate.f l0_0).bind fun bt123 => (if (!(bt123.1 == 0) || (!(bt123.2 == 0))) = true then (some (([] : List ByteArray), bt123.1, bt123.2)) else ((lines_Code.f l1).bind fun t126 => (if t126 = 0 then (textpatch_Apply_0.l0 k l1 ([] : List ByteArray) 0 l0_0 (l0_0.length : Int) 0) else (some (([] : List ByteArray), t126, (-2))))))
theorem textpatch_Apply_0.mono_l : ∀ k, (∀ y0 y1 y2 y3 y4 y5, LeO (textpatch_Apply_0.l0 k y0 y1 y2 y3 y4 y5) (textpatch_Apply_0.l0 (k + 1) y0 y1 y2 y3 y4 y5))
  | 0 => fun _ _ _ _ _ _ r h => by simp [textpatch_Apply_0.l0] at h
  | k + 1 => by
    have ih0 := textpatch_Apply_0.mono_l k
    · intro y0 y1 y2 y3 y4 y5
      unfold textpatch_Apply_0.l0
      repeat' first
      | (with_reducible exact ih0 _ _ _ _ _ _)
      | (with_reducible exact LeO.refl _)
      | (with_reducible exact LeO.none _)
      | (with_reducible refine LeO.ite ?_ ?_)
      | (with_reducible refine LeO.bind ?_ (fun _ => ?_))
      | exact ih0 _ _ _ _ _ _
      | exact LeO.none _
      | refine LeO.ite ?_ ?_
      | refine LeO.bind ?_ (fun _ => ?_)
theorem textpatch_Apply_0.mono : ∀ a0 a1 k, LeO (textpatch_Apply_0.f k a0 a1) (textpatch_Apply_0.f (k + 1) a0 a1) := by
  intro a0 a1 k
  have ih0 := textpatch_Apply_0.mono_l k
  unfold textpatch_Apply_0.f
  repeat' first
      | (with_reducible exact ih0 _ _ _ _ _ _)
      | (with_reducible exact LeO.refl _)
      | (with_reducible exact LeO.none _)
      | (with_reducible refine LeO.ite ?_ ?_)
      | (with_reducible refine LeO.bind ?_ (fun _ => ?_))
      | exact ih0 _ _ _ _ _ _
      | exact LeO.none _
      | refine LeO.ite ?_ ?_
      | refine LeO.bind ?_ (fun _ => ?_)
def textpatch_Apply_0.T12 : Bool × List (List Nat × List Nat) := (true, [([], []), ([0], [0]), ([], []), ([2], [2]), ([1, 3], [1, 3]), ([4, 1], [4]), ([5], [5]), ([5], [5]), ([7, 5], [5, 7]), ([5], [5]), ([9, 5, 5], [5, 9]), ([6, 8, 10, 5], [5, 6, 8, 10]), ([5], [5]), ([12, 5], [5, 12]), ([11, 13, 10, 5], [5, 11, 13]), ([14, 5], [5, 14]), ([5, 15], [5, 15])])
def textpatch_Apply_0.B12 : List Nat := [0, 1, 0, 4, 15, 31, 63, 63, 191, 63, 575, 2047, 63, 4159, 16383, 32767, 65535]
theorem textpatch_Apply_0.tab12 : rtab .any (opsOf Try.f15 12) = textpatch_Apply_0.T12 := by kernel_rfl
theorem textpatch_Apply_0.bits12 : waitsOk textpatch_Apply_0.T12.2 textpatch_Apply_0.B12 = true := by kernel_rfl
def textpatch_Apply_0.T14 : Bool × List (List Nat × List Nat) := (true, [([], []), ([], []), ([], []), ([], []), ([3], [3]), ([1, 2, 4], [1, 2, 4]), ([0, 5], [0, 5]), ([], []), ([7], [7]), ([6, 8, 6], [6, 8]), ([9, 9, 0, 1, 2, 3, 4, 5, 6, 7, 8, 9], [0, 9])])
def textpatch_Apply_0.B14 : List Nat := [0, 0, 0, 0, 8, 30, 63, 0, 128, 511, 1023]
theorem textpatch_Apply_0.tab14 : rtab .any (opsOf Try.f15 14) = textpatch_Apply_0.T14 := by kernel_rfl
theorem textpatch_Apply_0.bits14 : waitsOk textpatch_Apply_0.T14.2 textpatch_Apply_0.B14 = true := by kernel_rfl
set_option maxHeartbeats 8000000 in
set_option maxRecDepth 100000 in
theorem textpatch_Apply_0.calls (k : Nat) (A0_0 : Option Addr) (c0_0 : Nat) (l0_0 : List (S47)) (A1 : Option Addr) (c1 : Nat) (l1 : List ByteArray) (r1 : List ByteArray) (r2 : Int) (r3 : Int) (w : World) (hr0_0 : Kd.C k47 w A0_0 l0_0.length l0_0) (hc0_0 : l0_0.length ≤ c0_0) (hr1 : Kd.C Kd.string w A1 l1.length l1) (hc1 : l1.length ≤ c1) (h : textpatch_Apply_0.f k l0_0 l1 = some (r1, r2, r3)) :
    Calls Try.prog 15 #[.agg #[.slice A0_0 l0_0.length c0_0], .slice A1 l1.length c1] w fun e w' => ∃ v0_ : Value, e = .returned (.tuple #[v0_, .agg #[.int .i64 r2, .int .i64 r3]]) ∧ Kd.R Kd.string 9 w' w.heap.size (fun _ => True) v0_ r1 ∧ Below w.heap.size w w' := by
  have hu24 := Try.underlying24;have hu27 := Try.underlying27;have hu47 := Try.underlying47;have HR0_0 := Aside0.mk hr0_0;have HC0_0 := Aside0.mk hc0_0;clear hr0_0 hc0_0;have HR1 := Aside0.mk hr1;have HC1 := Aside0.mk hc1;clear hr1 hc1;have HB := Aside0.mk (Below.refl w.heap.size w);have H : ((textpatch_Validate.f l0_0).bind fun bt123 => (if (!(bt123.1 == 0) || (!(bt123.2 == 0))) = true then (some (([] : List ByteArray), bt123.1, bt123.2)) else ((lines_Code.f l1).bind fun t126 => (if t126 = 0 then (textpatch_Apply_0.l0 k l1 ([] : List ByteArray) 0 l0_0 (l0_0.length : Int) 0) else (some (([] : List ByteArray), t126, (-2))))))) = some (r1, r2, r3) := h;clear h;replace H := Option.bind_eq_some_iff.mp H;obtain ⟨⟨t123, t124⟩, A30, H⟩ := H;replace H : (if (!(t123 == 0) || (!(t124 == 0))) = true then (some (([] : List ByteArray), t123, t124)) else ((lines_Code.f l1).bind fun t126 => (if t126 = 0 then (textpatch_Apply_0.l0 k l1 ([] : List ByteArray) 0 l0_0 (l0_0.length : Int) 0) else (some (([] : List ByteArray), t126, (-2)))))) = some (r1, r2, r3) := H;have A3 := Aside0.mk A30;clear A30
  by_cases c4 : (!(t123 == 0) || (!(t124 == 0))) = true
  · rw [if_pos c4] at H;have c4b0 : (!(t123 == 0) || (!(t124 == 0))) = true := c4;clear c4;simp only [Option.some.injEq, Prod.mk.injEq] at H;obtain ⟨rfl, rfl, rfl⟩ := H
    go_enter Try.func15, Try.ntmps15
    try go_wp2_with (first|((with_reducible refine gate_dst (N := 2) rfl ?_);refine bE 2 #[.slice A0_0 l0_0.length c0_0] 24 ?_;intro gb121 hg w5 hbox hb;have BK121 := Aside0.mk (hbox);have GW121 := gBe HB hg;have GE121 := gBe HB hg;replace HB := sBe HB hb;clear hb hbox hg)|((with_reducible refine gate_dst (N := 5) rfl ?_);refine bE 5 #[.int .i64 0, .int .i64 0] 27 ?_;intro gb122 hg w6 hbox hb;have BK122 := Aside0.mk (hbox);have GW122 := gBe HB hg;have GE122 := gBe HB hg;have NB121_122 := nL BK121 hg;have NB122_121 := nG BK121 hg;replace BK121 := lJ BK121 hb;replace HB := sBe HB hb;clear hb hbox hg;have hnb7 := eq_false NB121_122.out;have hnc7 := eq_false NB122_121.out;have hcz8_0 := hC BK121 0 (.slice A0_0 l0_0.length c0_0);have hfz8_0 := blk_frozen BK121.out 0)|((with_reducible refine gate_callee (f := 19) rfl ?_);refine goesL_ (some 13) rfl rfl Try.func19 (by kernel_rfl) rfl #[.agg #[.slice A0_0 l0_0.length c0_0]] rfl mA ?_;(with_reducible refine (textpatch_Validate.calls _ _ l0_0 t123 t124 _ ?side1 ?side2 A3.out).mono ?_);(case side1 => exact cBe HR0_0);(case side2 => exact HC0_0.out);rintro e w9 ⟨rfl, hb⟩;refine ⟨_, rfl, ?_⟩;replace BK121 := lJ BK121 hb;replace BK122 := lJ BK122 hb;replace HB := sBe HB hb;(try clear hb))|((with_reducible refine gate_dst (N := 6) rfl ?_);refine bE 6 #[.int .i64 0, .int .i64 0] 27 ?_;intro gb125 hg w10 hbox hb;have BK125 := Aside0.mk (hbox);have GW125 := gBe HB hg;have GE125 := gBe HB hg;have NB121_125 := nL BK121 hg;have NB125_121 := nG BK121 hg;have NB122_125 := nL BK122 hg;have NB125_122 := nG BK122 hg;replace BK121 := lJ BK121 hb;replace BK122 := lJ BK122 hb;replace HB := sBe HB hb;clear hb hbox hg;have hnb11 := eq_false NB125_121.out;have hnc11 := eq_false NB121_125.out;have hnb12 := eq_false NB125_122.out;have hnc12 := eq_false NB122_125.out;have hcz13_0 := hC BK125 0 (.int .i64 0);have hcz13_1 := hC BK125 1 (.int .i64 0);have hfz13_0 := blk_frozen BK125.out 0;have hfz13_1 := blk_frozen BK125.out 1))
    obtain ⟨w14, hW_⟩ : ∃ w_, w_ = ((w10.setCell ⟨gb125, 0, none⟩ (.int .i64 t123)).setCell ⟨gb125, 1, none⟩ (.int .i64 t124)) := ⟨_, rfl⟩;have n0_ : Bk w14 gb121 24 #[.slice A0_0 l0_0.length c0_0] := ⟨by rw [hW_];exact kK⟩;have n1_ : Bk w14 gb122 27 #[.int .i64 0, .int .i64 0] := ⟨by rw [hW_];exact kK⟩;have n2_ : Bk w14 gb125 27 #[.int .i64 t123, .int .i64 t124] := ⟨by rw [hW_];exact kK⟩;have n3_ : Aside0 (Below w.heap.size w w14) := ⟨by rw [hW_];exact eB⟩;(try clear BK121);(try clear BK122);(try clear BK125);(try clear HB);(try rw [← hW_]);clear hW_;have BK121 := n0_;have BK122 := n1_;have BK125 := n2_;have HB := n3_;clear n0_ n1_ n2_ n3_;replace BK121 := Aside0.mk (blk_drew BK121.out);replace BK122 := Aside0.mk (blk_drew BK122.out);replace BK125 := Aside0.mk (blk_drew BK125.out);replace HB := Aside0.mk (below_drew1 HB.out);refine start_ (n := 3) (S := fun w' => w'.cell? ⟨gb125, 0, none⟩ = some (.int .i64 t123) ∧ w'.cell? ⟨gb125, 1, none⟩ = some (.int .i64 t124)) (ds := []) (mb 3 0) (by kernel_rfl) rfl (by kernel_rfl) ⟨(blk_cell BK125.out 0).trans rfl, (blk_cell BK125.out 1).trans rfl⟩ (fun hHeld => ?_);generalize w14.drew = w15 at BK121 BK122 BK125 HB hHeld ⊢;refine pB 1 4 (mb 3 2) rfl rfl ?_;refine tB 0 17 (mb 3 3) hHeld rfl rfl (by rintro w' ⟨s0, s1⟩;go_simp;with_reducible rfl) ?_;refine one_ (i := 2) (N := none) (mb 3 7) rfl rfl (by kernel_rfl) (by decide) (fun K hK => ?_);have hs16 : w15.cell? ⟨gb122, 0, none⟩ = some (.int .i64 0) := (blk_cell BK122.out 0).trans rfl;have hfs16 := blk_frozen BK122.out 0;have := NB121_122.out;have := NB125_122.out;have := NB122_121.out;have := NB122_125.out;have hs17 : w15.cell? ⟨gb122, 1, none⟩ = some (.int .i64 0) := (blk_cell BK122.out 1).trans rfl;have hfs17 := blk_frozen BK122.out 1;have := NB121_122.out;have := NB125_122.out;have := NB122_121.out;have := NB122_125.out;refine skip_ (w1 := ?_) (by rfl) rfl ?_ ?_;rotate_left
    · go_simp
      rfl
    refine hK.out _ _ ⟨((cell_far (p := ⟨gb122, _, none⟩) NB125_122.out _).trans (((cell_far (p := ⟨gb122, _, none⟩) NB125_122.out _).trans (hHeld.1)))), ((cell_far (p := ⟨gb122, _, none⟩) NB125_122.out _).trans (((cell_far (p := ⟨gb122, _, none⟩) NB125_122.out _).trans (hHeld.2))))⟩ (fun hHeld => ?_);clear hK K;refine done_ (by kernel_rfl) ?_
    try go_wp2
    refine bodyPost_ret (results_tc rfl _ _ gb122 27 #[.int .i64 t123, .int .i64 t124] (0, 0) _ rfl kK Try.underlying27 rfl (by kernel_rfl)) rfl ?_;exact ⟨_, rW, by first|exact Kd.R_nil _ _ _ _ _|exact Kd.N_nil _ _ _ _ _|exact Kd.V_nil _ _ _ _ _|exact Kd.Q_nil _ _ _ _ _|exact Kd.S_nil _ _ _ _ _, eB⟩
  · rw [if_neg c4] at H;have c4b0 : (!(t123 == 0) || (!(t124 == 0))) = false := (by simpa using c4);clear c4;replace H := Option.bind_eq_some_iff.mp H;obtain ⟨t126, A180, H⟩ := H;replace H : (if t126 = 0 then (textpatch_Apply_0.l0 k l1 ([] : List ByteArray) 0 l0_0 (l0_0.length : Int) 0) else (some (([] : List ByteArray), t126, (-2)))) = some (r1, r2, r3) := H;have A18 := Aside0.mk A180;clear A180
    by_cases c19 : t126 = 0
    · rw [if_pos c19] at H;have c19b0 : (t126 == 0) = true := beq_iff_eq.mpr c19;have c19b1 : (t126 != 0) = false := bne_eq_false_iff_eq.mpr c19;clear c19;have H' := Aside0.mk H;clear H
      go_enter Try.func15, Try.ntmps15
      go_wp2_with (first|((with_reducible refine gate_dst (N := 2) rfl ?_);refine bE 2 #[.slice A0_0 l0_0.length c0_0] 24 ?_;intro gb121 hg w20 hbox hb;have BK121 := Aside0.mk (hbox);have GW121 := gBe HB hg;have GE121 := gBe HB hg;replace HB := sBe HB hb;clear hb hbox hg)|((with_reducible refine gate_dst (N := 5) rfl ?_);refine bE 5 #[.int .i64 0, .int .i64 0] 27 ?_;intro gb122 hg w21 hbox hb;have BK122 := Aside0.mk (hbox);have GW122 := gBe HB hg;have GE122 := gBe HB hg;have NB121_122 := nL BK121 hg;have NB122_121 := nG BK121 hg;replace BK121 := lJ BK121 hb;replace HB := sBe HB hb;clear hb hbox hg;have hnb22 := eq_false NB121_122.out;have hnc22 := eq_false NB122_121.out;have hcz23_0 := hC BK121 0 (.slice A0_0 l0_0.length c0_0);have hfz23_0 := blk_frozen BK121.out 0)|((with_reducible refine gate_callee (f := 19) rfl ?_);refine goesL_ (some 13) rfl rfl Try.func19 (by kernel_rfl) rfl #[.agg #[.slice A0_0 l0_0.length c0_0]] rfl mA ?_;(with_reducible refine (textpatch_Validate.calls _ _ l0_0 t123 t124 _ ?side1 ?side2 A3.out).mono ?_);(case side1 => exact cBe HR0_0);(case side2 => exact HC0_0.out);rintro e w24 ⟨rfl, hb⟩;refine ⟨_, rfl, ?_⟩;replace BK121 := lJ BK121 hb;replace BK122 := lJ BK122 hb;replace HB := sBe HB hb;(try clear hb))|((with_reducible refine gate_dst (N := 6) rfl ?_);refine bE 6 #[.int .i64 0, .int .i64 0] 27 ?_;intro gb125 hg w25 hbox hb;have BK125 := Aside0.mk (hbox);have GW125 := gBe HB hg;have GE125 := gBe HB hg;have NB121_125 := nL BK121 hg;have NB125_121 := nG BK121 hg;have NB122_125 := nL BK122 hg;have NB125_122 := nG BK122 hg;replace BK121 := lJ BK121 hb;replace BK122 := lJ BK122 hb;replace HB := sBe HB hb;clear hb hbox hg;have hnb26 := eq_false NB125_121.out;have hnc26 := eq_false NB121_125.out;have hnb27 := eq_false NB125_122.out;have hnc27 := eq_false NB122_125.out;have hcz28_0 := hC BK125 0 (.int .i64 0);have hcz28_1 := hC BK125 1 (.int .i64 0);have hfz28_0 := blk_frozen BK125.out 0;have hfz28_1 := blk_frozen BK125.out 1)|((with_reducible refine gate_callee (f := 32) rfl ?_);refine goesL_ (some 19) rfl rfl Try.func32 (by kernel_rfl) rfl #[.slice A1 l1.length c1] rfl mA ?_;(with_reducible refine (lines_Code.calls _ _ l1 t126 _ ?side1 ?side2 A18.out).mono ?_);(case side1 => exact Kd.C_below HR1.out eB);(case side2 => exact HC1.out);rintro e w29 ⟨rfl, hb⟩;refine ⟨_, rfl, ?_⟩;replace BK121 := lJ BK121 hb;replace BK122 := lJ BK122 hb;replace BK125 := lK gb125 27 #[.int .i64 t123, .int .i64 t124] hb;replace HB := sBe HB hb;(try clear hb);have hcz30_0 := hC BK121 0 (.slice A0_0 l0_0.length c0_0);have hfz30_0 := blk_frozen BK121.out 0))
      go_loopg [8, 9, 27] k (fun kq v8 v9 v27 w' => ∃ (x8_1 : List ByteArray) (x9_1 : Int) (x27_1 : Int) (x123000_1 : Int) (x123001_1 : Int), v9 = .int .i64 x9_1 ∧ v27 = .int .i64 x27_1 ∧ Aside0 (textpatch_Apply_0.l0 kq l1 x8_1 x9_1 l0_0 (l0_0.length : Int) x27_1 = some (r1, r2, r3)) ∧ Aside0 (kq ≤ k) ∧ Aside0 (Kd.R Kd.string 9 w' w.heap.size (fun _ => True) v8 x8_1) ∧ Bk w' gb121 24 #[(.slice A0_0 l0_0.length c0_0)] ∧ Bk w' gb122 27 #[.int .i64 x123000_1, .int .i64 x123001_1] ∧ Bk w' gb125 27 #[.int .i64 t123, .int .i64 t124] ∧ Aside0 (Below w.heap.size w w'))
      case atStart => exact ⟨(([] : List ByteArray)), (0), (0), (0), (0), (by first|rfl|(simp only [i64_w, i32_w];done)|(simp only [i64_w, i32_w];rfl)|(simp;done)|(simp [*];done)), (by first|rfl|(simp only [i64_w, i32_w];done)|(simp only [i64_w, i32_w];rfl)|(simp;done)|(simp [*];done)), H', ⟨Nat.le_refl _⟩, ⟨by first|exact Kd.R_nil _ _ _ _ _|exact Kd.N_nil _ _ _ _ _|exact Kd.V_nil _ _ _ _ _|exact Kd.Q_nil _ _ _ _ _|exact Kd.S_nil _ _ _ _ _⟩, ⟨kK⟩, ⟨kK⟩, ⟨kK⟩, ⟨eB⟩⟩
      case round =>
        clear H'
        try clear c1
        try clear c2
        try clear p2
        try clear c3
        try clear c4
        try clear c4b0
        try clear c7
        try clear c11
        try clear c12
        try clear c15
        try clear c19
        try clear c19b0
        try clear c19b1
        try clear c22
        try clear c26
        try clear c27
        try clear hcz13_0
        try clear hcz13_1
        try clear hcz23_0
        try clear hcz28_0
        try clear hcz28_1
        try clear hcz30_0
        try clear hcz8_0
        try clear hfz13_0
        try clear hfz13_1
        try clear hfz23_0
        try clear hfz28_0
        try clear hfz28_1
        try clear hfz30_0
        try clear hfz8_0
        obtain ⟨x8_1, x9_1, x27_1, x123000_1, x123001_1, rfl, rfl, HA, HK1, HO_8, BK121, BK122, BK125, HB⟩ := hrel
        cases gk with
        | zero => exact absurd HA.out (by simp [textpatch_Apply_0.l0])
        | succ k1 =>
          have H := HA.out;clear HA;simp only [textpatch_Apply_0.l0] at H
          by_cases c31 : x27_1 < (l0_0.length : Int)
          · rw [if_pos c31] at H;have c31b0 : decide (x27_1 < (l0_0.length : Int)) = true := decide_eq_true c31;clear c31
            by_cases c32 : 0 ≤ x27_1
            · rw [if_pos c32] at H;have c32b0 : decide (0 ≤ x27_1) = true := decide_eq_true c32;clear c32
              by_cases c33 : x27_1 < (l0_0.length : Int)
              · rw [if_pos c33] at H;have c33b0 : decide (x27_1 < (l0_0.length : Int)) = true := decide_eq_true c33;clear c33;replace H := Option.bind_eq_some_iff.mp H;obtain ⟨t133, A340, H⟩ := H;replace H : (if t133 > (l1.length : Int) then (some (([] : List ByteArray), 19, x27_1)) else ((textpatch_End.f ((rd_T47 l0_0 x27_1).f0) ((rd_T47 l0_0 x27_1).f1) ((rd_T47 l0_0 x27_1).f2)).bind fun t134 => (if 0 ≤ ((rd_T47 l0_0 x27_1).f0) then (if ((rd_T47 l0_0 x27_1).f0) ≤ t134 then (if t134 ≤ (l1.length : Int) then ((slices_Equal_string_string.f ((l1.take (t134 : Int).toNat).drop (((rd_T47 l0_0 x27_1).f0) : Int).toNat) ((rd_T47 l0_0 x27_1).f1)).bind fun t136 => (if t136 = true then (if 0 ≤ x9_1 then (if x9_1 ≤ ((rd_T47 l0_0 x27_1).f0) then (if ((rd_T47 l0_0 x27_1).f0) ≤ (l1.length : Int) then (if x8_1.length + ((l1.take (((rd_T47 l0_0 x27_1).f0) : Int).toNat).drop (x9_1 : Int).toNat).length < 8796093022208 then ((some (x8_1 ++ ((l1.take (((rd_T47 l0_0 x27_1).f0) : Int).toNat).drop (x9_1 : Int).toNat) : List ByteArray)).bind fun y138 => (if y138.length + ((rd_T47 l0_0 x27_1).f2).length < 8796093022208 then ((textpatch_End.f ((rd_T47 l0_0 x27_1).f0) ((rd_T47 l0_0 x27_1).f1) ((rd_T47 l0_0 x27_1).f2)).bind fun t144 => (textpatch_Apply_0.l0 k1 l1 (y138 ++ ((rd_T47 l0_0 x27_1).f2)) t144 l0_0 (l0_0.length : Int) (wrap64 (x27_1 + 1)))) else (none))) else (none)) else (none)) else (none)) else (none)) else (some (([] : List ByteArray), 19, x27_1)))) else (none)) else (none)) else (none)))) = some (r1, r2, r3) := H;have A34 := Aside0.mk A340;clear A340
                by_cases c35 : t133 > (l1.length : Int)
                · rw [if_pos c35] at H;have c35b0 : decide ((l1.length : Int) < t133) = true := decide_eq_true c35;clear c35;simp only [Option.some.injEq, Prod.mk.injEq] at H;obtain ⟨rfl, rfl, rfl⟩ := H;have p131 : 0 ≤ (x27_1 : Int) := dA;have q131 : x27_1 < (l0_0.length : Int) := dA;obtain ⟨ad131, A131_1, c131_1, A131_2, c131_2, e131, hx131_0, hx131_1, hx131_2, hl131_1, hi131_1, hl131_2, hi131_2⟩ := at_T47 HR0_0.out x27_1 p131 q131
                  cases e131
                  replace hx131_0 := (hX HB hx131_0:);replace hx131_1 := (hX HB hx131_1:);replace hx131_2 := (hX HB hx131_2:);have HR131_1 := Aside0.mk hi131_1;have HC131_1 := Aside0.mk hl131_1;clear hi131_1 hl131_1;have HR131_2 := Aside0.mk hi131_2;have HC131_2 := Aside0.mk hl131_2;clear hi131_2 hl131_2;replace p131 := eq_true p131;replace q131 := eq_true q131
                  try go_wp2_with (first|((with_reducible refine gate_dst (N := 11) rfl ?_);refine bE 11 #[.int .i64 0, .slice none 0 0, .slice none 0 0] 47 ?_;intro gb132 hg w36 hbox hb;have BK132 := Aside0.mk (hbox);have GW132 := gBe HB hg;have GE132 := gBe HB hg;have NB121_132 := nL BK121 hg;have NB132_121 := nG BK121 hg;have NB122_132 := nL BK122 hg;have NB132_122 := nG BK122 hg;have NB125_132 := nL BK125 hg;have NB132_125 := nG BK125 hg;replace HO_8 := rL HO_8 hb;replace BK121 := lJ BK121 hb;replace BK122 := lJ BK122 hb;replace BK125 := lJ BK125 hb;replace HB := sBe HB hb;clear hb hbox hg;have hnb37 := eq_false NB132_121.out;have hnc37 := eq_false NB121_132.out;have hnb38 := eq_false NB132_122.out;have hnc38 := eq_false NB122_132.out;have hnb39 := eq_false NB132_125.out;have hnc39 := eq_false NB125_132.out;have hcz40_0 := hC BK132 0 (.int .i64 0);have hcz40_1 := hC BK132 1 (.slice none 0 0);have hcz40_2 := hC BK132 2 (.slice none 0 0);have hfz40_0 := blk_frozen BK132.out 0;have hfz40_1 := blk_frozen BK132.out 1;have hfz40_2 := blk_frozen BK132.out 2))
                  obtain ⟨w41, hW_⟩ : ∃ w_, w_ = (((w36.setCell ⟨gb132, 0, none⟩ (.int .i64 ((rd_T47 l0_0 x27_1).f0))).setCell ⟨gb132, 1, none⟩ (.slice A131_1 ((rd_T47 l0_0 x27_1).f1).length c131_1)).setCell ⟨gb132, 2, none⟩ (.slice A131_2 ((rd_T47 l0_0 x27_1).f2).length c131_2)) := ⟨_, rfl⟩;have n0_ : Aside0 (Kd.R Kd.string 9 w41 w.heap.size (fun _ => True) u8 x8_1) := ⟨by rw [hW_];(with_reducible repeat first|apply rA|apply rN|apply rD);exact Kd.R_mono (Kd.R_far (p := ⟨gb132, 2, none⟩) (Kd.R_far (p := ⟨gb132, 1, none⟩) (Kd.R_far (p := ⟨gb132, 0, none⟩) (Kd.R_types HO_8.out BK132.out (by decide)) (fun _ hk => hk.2) (.int .i64 ((rd_T47 l0_0 x27_1).f0))) (fun _ hk => hk.2) (.slice A131_1 ((rd_T47 l0_0 x27_1).f1).length c131_1)) (fun _ hk => hk.2) (.slice A131_2 ((rd_T47 l0_0 x27_1).f2).length c131_2)) (fun _ hk => trivial)⟩;have n1_ : Bk w41 gb121 24 #[.slice (some ad131) l0_0.length c0_0] := ⟨by rw [hW_];exact kK⟩;have n2_ : Bk w41 gb122 27 #[.int .i64 x123000_1, .int .i64 x123001_1] := ⟨by rw [hW_];exact kK⟩;have n3_ : Bk w41 gb125 27 #[.int .i64 t123, .int .i64 t124] := ⟨by rw [hW_];exact kK⟩;have n4_ : Bk w41 gb132 47 #[.int .i64 ((rd_T47 l0_0 x27_1).f0), .slice A131_1 ((rd_T47 l0_0 x27_1).f1).length c131_1, .slice A131_2 ((rd_T47 l0_0 x27_1).f2).length c131_2] := ⟨by rw [hW_];exact kK⟩;have n5_ : Aside0 (Below w.heap.size w w41) := ⟨by rw [hW_];exact eB⟩;(try clear HO_8);(try clear BK121);(try clear BK122);(try clear BK125);(try clear BK132);(try clear HB);(try rw [← hW_]);clear hW_;have HO_8 := n0_;have BK121 := n1_;have BK122 := n2_;have BK125 := n3_;have BK132 := n4_;have HB := n5_;clear n0_ n1_ n2_ n3_ n4_ n5_;replace HO_8 := Aside0.mk (Kd.R_drew HO_8.out);replace BK121 := Aside0.mk (blk_drew BK121.out);replace BK122 := Aside0.mk (blk_drew BK122.out);replace BK125 := Aside0.mk (blk_drew BK125.out);replace BK132 := Aside0.mk (blk_drew BK132.out);replace HB := Aside0.mk (below_drew1 HB.out);refine start_ (n := 17) (S := fun w' => w'.cell? ⟨gb132, 0, none⟩ = some (.int .i64 ((rd_T47 l0_0 x27_1).f0)) ∧ w'.cell? ⟨gb132, 1, none⟩ = some (.slice A131_1 ((rd_T47 l0_0 x27_1).f1).length c131_1) ∧ w'.cell? ⟨gb132, 2, none⟩ = some (.slice A131_2 ((rd_T47 l0_0 x27_1).f2).length c131_2)) (ds := []) (mb 17 0) (by kernel_rfl) rfl (by kernel_rfl) ⟨(blk_cell BK132.out 0).trans rfl, (blk_cell BK132.out 1).trans rfl, (blk_cell BK132.out 2).trans rfl⟩ (fun hHeld => ?_);refine with_tabW textpatch_Apply_0.tab12 textpatch_Apply_0.bits12 (fun HT_ HW_ => ?_);generalize w41.drew = w42 at HO_8 BK121 BK122 BK125 BK132 HB hHeld ⊢;refine pA 2 34 (mb 17 4) HT_ rfl rfl ?_;refine pA 3 35 (mb 17 12) HT_ rfl rfl ?_;refine tA 0 32 (mb 17 13) HT_ HW_ hHeld rfl rfl (by rintro w' ⟨s0, s1, s2⟩;go_simp;with_reducible rfl) ?_;refine one_ (i := 1) (N := some 33) (mb 17 15) rfl rfl (one_of HT_.out (by kernel_rfl)) (by decide) (fun K hK => ?_);refine goes_ Try.func33 (by kernel_rfl) rfl #[.agg #[.int .i64 ((rd_T47 l0_0 x27_1).f0), .slice A131_1 ((rd_T47 l0_0 x27_1).f1).length c131_1, .slice A131_2 ((rd_T47 l0_0 x27_1).f2).length c131_2]] (by rfl) rfl rfl mA ?_
                  with_reducible refine (textpatch_End.calls ((rd_T47 l0_0 x27_1).f0) _ _ ((rd_T47 l0_0 x27_1).f1) _ _ ((rd_T47 l0_0 x27_1).f2) t133 _ ?side1 ?side2 ?side3 ?side4 A34.out).mono ?_
                  (case side1 => exact cBe HR131_1);(case side2 => exact HC131_1.out);(case side3 => exact cBe HR131_2);(case side4 => exact HC131_2.out)
                  rintro e w43 ⟨rfl, hb⟩
                  refine ⟨_, rfl, ?_⟩;replace HO_8 := rL HO_8 hb;replace BK121 := lJ BK121 hb;replace BK122 := lJ BK122 hb;replace BK125 := lJ BK125 hb;replace BK132 := lJ BK132 hb;replace HB := sBe HB hb;(try clear hb);refine hK.out _ _ ⟨(blk_cell BK132.out 0).trans rfl, (blk_cell BK132.out 1).trans rfl, (blk_cell BK132.out 2).trans rfl⟩ (fun hHeld => ?_);clear hK K;refine nmA (some 33) ?_;refine pA 4 36 (mb 17 31) HT_ rfl rfl ?_;refine pA 5 37 (mb 17 63) HT_ rfl rfl ?_;refine pU 6 38 (mb 17 127) HT_ rfl rfl ?_;refine pU 7 39 (mb 17 255) HT_ rfl rfl ?_;refine pU 8 40 (mb 17 511) HT_ rfl rfl ?_;refine pU 9 41 (mb 17 1023) HT_ rfl rfl ?_;refine pU 10 42 (mb 17 2047) HT_ rfl rfl ?_;refine pU 11 43 (mb 17 4095) HT_ rfl rfl ?_;refine pU 12 44 (mb 17 8191) HT_ rfl rfl ?_;refine pU 13 45 (mb 17 16383) HT_ rfl rfl ?_;refine pU 14 46 (mb 17 32767) HT_ rfl rfl ?_;refine pU 15 47 (mb 17 65535) HT_ rfl rfl ?_;refine pA 16 48 (mb 17 131071) HT_ rfl rfl ?_;refine done_ (done_of HT_.out (by kernel_rfl)) ?_;have hnb44 := eq_false NB122_121.out;have hnc44 := eq_false NB121_122.out;have hnb45 := eq_false NB122_125.out;have hnc45 := eq_false NB125_122.out;have hcz46_0 := hC BK122 0 (.int .i64 x123000_1);have hcz46_1 := hC BK122 1 (.int .i64 x123001_1);have hfz46_0 := blk_frozen BK122.out 0;have hfz46_1 := blk_frozen BK122.out 1
                  try go_wp2
                  refine bodyPost_ret (results_tc rfl _ _ gb122 27 #[.int .i64 19, .int .i64 x27_1] (0, 0) _ rfl kK Try.underlying27 rfl (by kernel_rfl)) rfl ?_;exact ⟨_, rW, by first|exact Kd.R_nil _ _ _ _ _|exact Kd.N_nil _ _ _ _ _|exact Kd.V_nil _ _ _ _ _|exact Kd.Q_nil _ _ _ _ _|exact Kd.S_nil _ _ _ _ _, eB⟩
                · rw [if_neg c35] at H;have c35b0 : decide ((l1.length : Int) < t133) = false := decide_eq_false c35;clear c35;replace H := Option.bind_eq_some_iff.mp H;obtain ⟨t134, A470, H⟩ := H;replace H : (if 0 ≤ ((rd_T47 l0_0 x27_1).f0) then (if ((rd_T47 l0_0 x27_1).f0) ≤ t134 then (if t134 ≤ (l1.length : Int) then ((slices_Equal_string_string.f ((l1.take (t134 : Int).toNat).drop (((rd_T47 l0_0 x27_1).f0) : Int).toNat) ((rd_T47 l0_0 x27_1).f1)).bind fun t136 => (if t136 = true then (if 0 ≤ x9_1 then (if x9_1 ≤ ((rd_T47 l0_0 x27_1).f0) then (if ((rd_T47 l0_0 x27_1).f0) ≤ (l1.length : Int) then (if x8_1.length + ((l1.take (((rd_T47 l0_0 x27_1).f0) : Int).toNat).drop (x9_1 : Int).toNat).length < 8796093022208 then ((some (x8_1 ++ ((l1.take (((rd_T47 l0_0 x27_1).f0) : Int).toNat).drop (x9_1 : Int).toNat) : List ByteArray)).bind fun y138 => (if y138.length + ((rd_T47 l0_0 x27_1).f2).length < 8796093022208 then ((textpatch_End.f ((rd_T47 l0_0 x27_1).f0) ((rd_T47 l0_0 x27_1).f1) ((rd_T47 l0_0 x27_1).f2)).bind fun t144 => (textpatch_Apply_0.l0 k1 l1 (y138 ++ ((rd_T47 l0_0 x27_1).f2)) t144 l0_0 (l0_0.length : Int) (wrap64 (x27_1 + 1)))) else (none))) else (none)) else (none)) else (none)) else (none)) else (some (([] : List ByteArray), 19, x27_1)))) else (none)) else (none)) else (none)) = some (r1, r2, r3) := H;have A47 := Aside0.mk A470;clear A470
                  by_cases c48 : 0 ≤ ((rd_T47 l0_0 x27_1).f0)
                  · rw [if_pos c48] at H;have c48b0 := eq_true c48;have c48b1 : decide (0 ≤ ((rd_T47 l0_0 x27_1).f0)) = true := decide_eq_true c48;clear c48
                    by_cases c49 : ((rd_T47 l0_0 x27_1).f0) ≤ t134
                    · rw [if_pos c49] at H;have c49b0 := eq_true c49;have c49b1 : decide (((rd_T47 l0_0 x27_1).f0) ≤ t134) = true := decide_eq_true c49;clear c49
                      by_cases c50 : t134 ≤ (l1.length : Int)
                      · rw [if_pos c50] at H;have c50b0 := eq_true c50;have c50b1 : decide (t134 ≤ (l1.length : Int)) = true := decide_eq_true c50;clear c50;replace H := Option.bind_eq_some_iff.mp H;obtain ⟨t136, A510, H⟩ := H;replace H : (if t136 = true then (if 0 ≤ x9_1 then (if x9_1 ≤ ((rd_T47 l0_0 x27_1).f0) then (if ((rd_T47 l0_0 x27_1).f0) ≤ (l1.length : Int) then (if x8_1.length + ((l1.take (((rd_T47 l0_0 x27_1).f0) : Int).toNat).drop (x9_1 : Int).toNat).length < 8796093022208 then ((some (x8_1 ++ ((l1.take (((rd_T47 l0_0 x27_1).f0) : Int).toNat).drop (x9_1 : Int).toNat) : List ByteArray)).bind fun y138 => (if y138.length + ((rd_T47 l0_0 x27_1).f2).length < 8796093022208 then ((textpatch_End.f ((rd_T47 l0_0 x27_1).f0) ((rd_T47 l0_0 x27_1).f1) ((rd_T47 l0_0 x27_1).f2)).bind fun t144 => (textpatch_Apply_0.l0 k1 l1 (y138 ++ ((rd_T47 l0_0 x27_1).f2)) t144 l0_0 (l0_0.length : Int) (wrap64 (x27_1 + 1)))) else (none))) else (none)) else (none)) else (none)) else (none)) else (some (([] : List ByteArray), 19, x27_1))) = some (r1, r2, r3) := H;have A51 := Aside0.mk A510;clear A510
                        by_cases c52 : t136 = true
                        · subst c52;have H1 : (if 0 ≤ x9_1 then (if x9_1 ≤ ((rd_T47 l0_0 x27_1).f0) then (if ((rd_T47 l0_0 x27_1).f0) ≤ (l1.length : Int) then (if x8_1.length + ((l1.take (((rd_T47 l0_0 x27_1).f0) : Int).toNat).drop (x9_1 : Int).toNat).length < 8796093022208 then ((some (x8_1 ++ ((l1.take (((rd_T47 l0_0 x27_1).f0) : Int).toNat).drop (x9_1 : Int).toNat) : List ByteArray)).bind fun y138 => (if y138.length + ((rd_T47 l0_0 x27_1).f2).length < 8796093022208 then ((textpatch_End.f ((rd_T47 l0_0 x27_1).f0) ((rd_T47 l0_0 x27_1).f1) ((rd_T47 l0_0 x27_1).f2)).bind fun t144 => (textpatch_Apply_0.l0 k1 l1 (y138 ++ ((rd_T47 l0_0 x27_1).f2)) t144 l0_0 (l0_0.length : Int) (wrap64 (x27_1 + 1)))) else (none))) else (none)) else (none)) else (none)) else (none)) = some (r1, r2, r3) := (by rw [if_pos rfl] at H;exact H);clear H;have H := H1;clear H1
                          by_cases c53 : 0 ≤ x9_1
                          · rw [if_pos c53] at H;have c53b0 := eq_true c53;have c53b1 : decide (0 ≤ x9_1) = true := decide_eq_true c53;clear c53
                            by_cases c54 : x9_1 ≤ ((rd_T47 l0_0 x27_1).f0)
                            · rw [if_pos c54] at H;have c54b0 := eq_true c54;have c54b1 : decide (x9_1 ≤ ((rd_T47 l0_0 x27_1).f0)) = true := decide_eq_true c54;clear c54
                              by_cases c55 : ((rd_T47 l0_0 x27_1).f0) ≤ (l1.length : Int)
                              · rw [if_pos c55] at H;have c55b0 := eq_true c55;have c55b1 : decide (((rd_T47 l0_0 x27_1).f0) ≤ (l1.length : Int)) = true := decide_eq_true c55;clear c55
                                by_cases c56 : x8_1.length + ((l1.take (((rd_T47 l0_0 x27_1).f0) : Int).toNat).drop (x9_1 : Int).toNat).length < 8796093022208
                                · rw [if_pos c56] at H;have LMc56 := Aside0.mk c56;clear c56;obtain ⟨y138, hy138⟩ : ∃ y_ : List ByteArray, y_ = (x8_1 ++ ((l1.take (((rd_T47 l0_0 x27_1).f0) : Int).toNat).drop (x9_1 : Int).toNat)) := ⟨_, rfl⟩;replace H : (if y138.length + ((rd_T47 l0_0 x27_1).f2).length < 8796093022208 then ((textpatch_End.f ((rd_T47 l0_0 x27_1).f0) ((rd_T47 l0_0 x27_1).f1) ((rd_T47 l0_0 x27_1).f2)).bind fun t144 => (textpatch_Apply_0.l0 k1 l1 (y138 ++ ((rd_T47 l0_0 x27_1).f2)) t144 l0_0 (l0_0.length : Int) (wrap64 (x27_1 + 1)))) else (none)) = some (r1, r2, r3) := (by first|(rw [hy138];with_reducible exact H)|(have H2_ := (Option.bind_some _ _).symm.trans H;rw [hy138];with_reducible exact H2_)|(have H2_ := (Option.bind_some _ _).symm.trans H;with_reducible exact H2_)|with_reducible exact H|(rw [hy138];exact H)|exact H);have Ny138 := Aside0.mk hy138;clear hy138
                                  by_cases c57 : y138.length + ((rd_T47 l0_0 x27_1).f2).length < 8796093022208
                                  · rw [if_pos c57] at H;have LMc57 := Aside0.mk c57;clear c57;obtain ⟨y141, hy141⟩ : ∃ y_ : List ByteArray, y_ = (y138 ++ ((rd_T47 l0_0 x27_1).f2)) := ⟨_, rfl⟩;replace H : ((textpatch_End.f ((rd_T47 l0_0 x27_1).f0) ((rd_T47 l0_0 x27_1).f1) ((rd_T47 l0_0 x27_1).f2)).bind fun t144 => (textpatch_Apply_0.l0 k1 l1 y141 t144 l0_0 (l0_0.length : Int) (wrap64 (x27_1 + 1)))) = some (r1, r2, r3) := (by first|(rw [hy141];with_reducible exact H)|(have H2_ := (Option.bind_some _ _).symm.trans H;rw [hy141];with_reducible exact H2_)|(have H2_ := (Option.bind_some _ _).symm.trans H;with_reducible exact H2_)|with_reducible exact H|(rw [hy141];exact H)|exact H);have Ny141 := Aside0.mk hy141;clear hy141;replace H := Option.bind_eq_some_iff.mp H;obtain ⟨t144, A580, H⟩ := H;replace H : (textpatch_Apply_0.l0 k1 l1 y141 t144 l0_0 (l0_0.length : Int) (wrap64 (x27_1 + 1))) = some (r1, r2, r3) := H;have A58 := Aside0.mk A580;clear A580;have H' := Aside0.mk H;clear H;have p131 : 0 ≤ (x27_1 : Int) := dA;have q131 : x27_1 < (l0_0.length : Int) := dA;obtain ⟨ad131, A131_1, c131_1, A131_2, c131_2, e131, hx131_0, hx131_1, hx131_2, hl131_1, hi131_1, hl131_2, hi131_2⟩ := at_T47 HR0_0.out x27_1 p131 q131
                                    cases e131
                                    replace hx131_0 := (hX HB hx131_0:);replace hx131_1 := (hX HB hx131_1:);replace hx131_2 := (hX HB hx131_2:);have HR131_1 := Aside0.mk hi131_1;have HC131_1 := Aside0.mk hl131_1;clear hi131_1 hl131_1;have HR131_2 := Aside0.mk hi131_2;have HC131_2 := Aside0.mk hl131_2;clear hi131_2 hl131_2;replace p131 := eq_true p131;replace q131 := eq_true q131
                                    try go_wp2_with (first|((with_reducible refine gate_dst (N := 11) rfl ?_);refine bE 11 #[.int .i64 0, .slice none 0 0, .slice none 0 0] 47 ?_;intro gb132 hg w59 hbox hb;have BK132 := Aside0.mk (hbox);have GW132 := gBe HB hg;have GE132 := gBe HB hg;have NB121_132 := nL BK121 hg;have NB132_121 := nG BK121 hg;have NB122_132 := nL BK122 hg;have NB132_122 := nG BK122 hg;have NB125_132 := nL BK125 hg;have NB132_125 := nG BK125 hg;replace HO_8 := rL HO_8 hb;replace BK121 := lJ BK121 hb;replace BK122 := lJ BK122 hb;replace BK125 := lJ BK125 hb;replace HB := sBe HB hb;clear hb hbox hg;have hnb60 := eq_false NB132_121.out;have hnc60 := eq_false NB121_132.out;have hnb61 := eq_false NB132_122.out;have hnc61 := eq_false NB122_132.out;have hnb62 := eq_false NB132_125.out;have hnc62 := eq_false NB125_132.out;have hcz63_0 := hC BK132 0 (.int .i64 0);have hcz63_1 := hC BK132 1 (.slice none 0 0);have hcz63_2 := hC BK132 2 (.slice none 0 0);have hfz63_0 := blk_frozen BK132.out 0;have hfz63_1 := blk_frozen BK132.out 1;have hfz63_2 := blk_frozen BK132.out 2))
                                    obtain ⟨w64, hW_⟩ : ∃ w_, w_ = (((w59.setCell ⟨gb132, 0, none⟩ (.int .i64 ((rd_T47 l0_0 x27_1).f0))).setCell ⟨gb132, 1, none⟩ (.slice A131_1 ((rd_T47 l0_0 x27_1).f1).length c131_1)).setCell ⟨gb132, 2, none⟩ (.slice A131_2 ((rd_T47 l0_0 x27_1).f2).length c131_2)) := ⟨_, rfl⟩;have n0_ : Aside0 (Kd.R Kd.string 9 w64 w.heap.size (fun _ => True) u8 x8_1) := ⟨by rw [hW_];(with_reducible repeat first|apply rA|apply rN|apply rD);exact Kd.R_mono (Kd.R_far (p := ⟨gb132, 2, none⟩) (Kd.R_far (p := ⟨gb132, 1, none⟩) (Kd.R_far (p := ⟨gb132, 0, none⟩) (Kd.R_types HO_8.out BK132.out (by decide)) (fun _ hk => hk.2) (.int .i64 ((rd_T47 l0_0 x27_1).f0))) (fun _ hk => hk.2) (.slice A131_1 ((rd_T47 l0_0 x27_1).f1).length c131_1)) (fun _ hk => hk.2) (.slice A131_2 ((rd_T47 l0_0 x27_1).f2).length c131_2)) (fun _ hk => trivial)⟩;have n1_ : Bk w64 gb121 24 #[.slice (some ad131) l0_0.length c0_0] := ⟨by rw [hW_];exact kK⟩;have n2_ : Bk w64 gb122 27 #[.int .i64 x123000_1, .int .i64 x123001_1] := ⟨by rw [hW_];exact kK⟩;have n3_ : Bk w64 gb125 27 #[.int .i64 t123, .int .i64 t124] := ⟨by rw [hW_];exact kK⟩;have n4_ : Bk w64 gb132 47 #[.int .i64 ((rd_T47 l0_0 x27_1).f0), .slice A131_1 ((rd_T47 l0_0 x27_1).f1).length c131_1, .slice A131_2 ((rd_T47 l0_0 x27_1).f2).length c131_2] := ⟨by rw [hW_];exact kK⟩;have n5_ : Aside0 (Below w.heap.size w w64) := ⟨by rw [hW_];exact eB⟩;(try clear HO_8);(try clear BK121);(try clear BK122);(try clear BK125);(try clear BK132);(try clear HB);(try rw [← hW_]);clear hW_;have HO_8 := n0_;have BK121 := n1_;have BK122 := n2_;have BK125 := n3_;have BK132 := n4_;have HB := n5_;clear n0_ n1_ n2_ n3_ n4_ n5_;replace HO_8 := Aside0.mk (Kd.R_drew HO_8.out);replace BK121 := Aside0.mk (blk_drew BK121.out);replace BK122 := Aside0.mk (blk_drew BK122.out);replace BK125 := Aside0.mk (blk_drew BK125.out);replace BK132 := Aside0.mk (blk_drew BK132.out);replace HB := Aside0.mk (below_drew1 HB.out);refine start_ (n := 17) (S := fun w' => w'.cell? ⟨gb132, 0, none⟩ = some (.int .i64 ((rd_T47 l0_0 x27_1).f0)) ∧ w'.cell? ⟨gb132, 1, none⟩ = some (.slice A131_1 ((rd_T47 l0_0 x27_1).f1).length c131_1) ∧ w'.cell? ⟨gb132, 2, none⟩ = some (.slice A131_2 ((rd_T47 l0_0 x27_1).f2).length c131_2)) (ds := []) (mb 17 0) (by kernel_rfl) rfl (by kernel_rfl) ⟨(blk_cell BK132.out 0).trans rfl, (blk_cell BK132.out 1).trans rfl, (blk_cell BK132.out 2).trans rfl⟩ (fun hHeld => ?_);refine with_tabW textpatch_Apply_0.tab12 textpatch_Apply_0.bits12 (fun HT_ HW_ => ?_);generalize w64.drew = w65 at HO_8 BK121 BK122 BK125 BK132 HB hHeld ⊢;refine pA 2 34 (mb 17 4) HT_ rfl rfl ?_;refine pA 3 35 (mb 17 12) HT_ rfl rfl ?_;refine tA 0 32 (mb 17 13) HT_ HW_ hHeld rfl rfl (by rintro w' ⟨s0, s1, s2⟩;go_simp;with_reducible rfl) ?_;refine one_ (i := 1) (N := some 33) (mb 17 15) rfl rfl (one_of HT_.out (by kernel_rfl)) (by decide) (fun K hK => ?_);refine goes_ Try.func33 (by kernel_rfl) rfl #[.agg #[.int .i64 ((rd_T47 l0_0 x27_1).f0), .slice A131_1 ((rd_T47 l0_0 x27_1).f1).length c131_1, .slice A131_2 ((rd_T47 l0_0 x27_1).f2).length c131_2]] (by rfl) rfl rfl mA ?_
                                    with_reducible refine (textpatch_End.calls ((rd_T47 l0_0 x27_1).f0) _ _ ((rd_T47 l0_0 x27_1).f1) _ _ ((rd_T47 l0_0 x27_1).f2) t133 _ ?side1 ?side2 ?side3 ?side4 A34.out).mono ?_
                                    (case side1 => exact cBe HR131_1);(case side2 => exact HC131_1.out);(case side3 => exact cBe HR131_2);(case side4 => exact HC131_2.out)
                                    rintro e w66 ⟨rfl, hb⟩
                                    refine ⟨_, rfl, ?_⟩;replace HO_8 := rL HO_8 hb;replace BK121 := lJ BK121 hb;replace BK122 := lJ BK122 hb;replace BK125 := lJ BK125 hb;replace BK132 := lJ BK132 hb;replace HB := sBe HB hb;(try clear hb);refine hK.out _ _ ⟨(blk_cell BK132.out 0).trans rfl, (blk_cell BK132.out 1).trans rfl, (blk_cell BK132.out 2).trans rfl⟩ (fun hHeld => ?_);clear hK K;refine nmA (some 33) ?_;refine pA 4 36 (mb 17 31) HT_ rfl rfl ?_;refine pA 5 37 (mb 17 63) HT_ rfl rfl ?_;refine pA 6 38 (mb 17 127) HT_ rfl rfl ?_;refine pA 7 39 (mb 17 255) HT_ rfl rfl ?_;refine pA 12 44 (mb 17 4351) HT_ rfl rfl ?_;refine tA 8 40 (mb 17 4607) HT_ HW_ hHeld rfl rfl (by rintro w' ⟨s0, s1, s2⟩;go_simp;with_reducible rfl) ?_;refine tA 9 41 (mb 17 5119) HT_ HW_ hHeld rfl rfl (by rintro w' ⟨s0, s1, s2⟩;go_simp;with_reducible rfl) ?_;refine tA 13 45 (mb 17 13311) HT_ HW_ hHeld rfl rfl (by rintro w' ⟨s0, s1, s2⟩;go_simp;with_reducible rfl) ?_;refine one_ (i := 10) (N := some 42) (mb 17 14335) rfl rfl (one_of HT_.out (by kernel_rfl)) (by decide) (fun K hK => ?_);refine goes_ Try.func33 (by kernel_rfl) rfl #[.agg #[.int .i64 ((rd_T47 l0_0 x27_1).f0), .slice A131_1 ((rd_T47 l0_0 x27_1).f1).length c131_1, .slice A131_2 ((rd_T47 l0_0 x27_1).f2).length c131_2]] (by rfl) rfl rfl mA ?_
                                    with_reducible refine (textpatch_End.calls ((rd_T47 l0_0 x27_1).f0) _ _ ((rd_T47 l0_0 x27_1).f1) _ _ ((rd_T47 l0_0 x27_1).f2) t134 _ ?side1 ?side2 ?side3 ?side4 A47.out).mono ?_
                                    (case side1 => exact cBe HR131_1);(case side2 => exact HC131_1.out);(case side3 => exact cBe HR131_2);(case side4 => exact HC131_2.out)
                                    rintro e w67 ⟨rfl, hb⟩
                                    refine ⟨_, rfl, ?_⟩;replace HO_8 := rL HO_8 hb;replace BK121 := lJ BK121 hb;replace BK122 := lJ BK122 hb;replace BK125 := lJ BK125 hb;replace BK132 := lJ BK132 hb;replace HB := sBe HB hb;(try clear hb);obtain ⟨i068, hi068, _, hsz68, _⟩ := info_parts info9;obtain ⟨A68, hcut68, hA68, hC68⟩ := print_mid_of (P := Try.prog) Value.string (⟨#[]⟩ : ByteArray) 25 9 .i64 .i64 Try.underlying25 hi068 hsz68 A1 c1 l1 ((rd_T47 l0_0 x27_1).f0) t134 (dA) (by first|omega|exact dA) (dA) HC1.out;have HR135 := Aside0.mk (Kd.C_of_reads (h1 := fun _ => rfl) (hA68 _ (Kd.reads_of_C HR1.out)));have HC135 := Aside0.mk hC68;clear hA68 hC68 hi068 hsz68;refine hK.out _ _ ⟨(blk_cell BK132.out 0).trans rfl, (blk_cell BK132.out 1).trans rfl, (blk_cell BK132.out 2).trans rfl⟩ (fun hHeld => ?_);clear hK K;refine nmA (some 42) ?_;refine pA 11 43 (mb 17 16383) HT_ rfl rfl ?_;refine one_ (i := 14) (N := some 46) (mb 17 32767) rfl rfl (one_of HT_.out (by kernel_rfl)) (by decide) (fun K hK => ?_);refine goes_ Try.func34 (by kernel_rfl) rfl #[.slice A68 ((l1.take (t134 : Int).toNat).drop (((rd_T47 l0_0 x27_1).f0) : Int).toNat).length (c1 - ((rd_T47 l0_0 x27_1).f0).toNat), .slice A131_1 ((rd_T47 l0_0 x27_1).f1).length c131_1] (by rfl) rfl rfl (by (try simp only [List.map_toArray, List.map_cons, List.map_nil]);first|done|(rw [show ((l1.take (t134 : Int).toNat).drop (((rd_T47 l0_0 x27_1).f0) : Int).toNat).length = (t134.toNat - ((rd_T47 l0_0 x27_1).f0).toNat) from (by rw [List.length_drop, List.length_take];have h_ : (t134 : Int) ≤ (l1.length : Int) := dA;omega)] <;> rfl)|rfl|(simp only [List.length_drop, List.length_take];rfl)) ?_
                                    with_reducible refine (slices_Equal_string_string.calls _ _ ((l1.take (t134 : Int).toNat).drop (((rd_T47 l0_0 x27_1).f0) : Int).toNat) _ _ ((rd_T47 l0_0 x27_1).f1) true _ ?side1 ?side2 ?side3 ?side4 A51.out).mono ?_
                                    (case side1 => exact cBe HR135);(case side2 => exact HC135.out);(case side3 => exact cBe HR131_1);(case side4 => exact HC131_1.out)
                                    rintro e w' ⟨rfl, ⟨nd, rfl⟩⟩
                                    refine ⟨_, rfl, ?_⟩;refine hK.out _ _ ⟨(blk_cell BK132.out 0).trans rfl, (blk_cell BK132.out 1).trans rfl, (blk_cell BK132.out 2).trans rfl⟩ (fun hHeld => ?_);clear hK K;refine nmA (some 46) ?_;refine pA 15 47 (mb 17 65535) HT_ rfl rfl ?_;refine pA 16 48 (mb 17 131071) HT_ rfl rfl ?_;refine done_ (done_of HT_.out (by kernel_rfl)) ?_
                                    try go_wp2
                                    (try (rw [drewN_self w67];generalize hq_ : World.drewN w67 _ = w67;have n0_ : Aside0 (Kd.R Kd.string 9 w67 w.heap.size (fun _ => True) u8 x8_1) := ⟨by rw [← hq_];exact (rK HO_8)⟩;have n1_ : Bk w67 gb121 24 #[.slice (some ad131) l0_0.length c0_0] := ⟨by rw [← hq_];exact kK⟩;have n2_ : Bk w67 gb122 27 #[.int .i64 x123000_1, .int .i64 x123001_1] := ⟨by rw [← hq_];exact kK⟩;have n3_ : Bk w67 gb125 27 #[.int .i64 t123, .int .i64 t124] := ⟨by rw [← hq_];exact kK⟩;have n4_ : Bk w67 gb132 47 #[.int .i64 ((rd_T47 l0_0 x27_1).f0), .slice A131_1 ((rd_T47 l0_0 x27_1).f1).length c131_1, .slice A131_2 ((rd_T47 l0_0 x27_1).f2).length c131_2] := ⟨by rw [← hq_];exact kK⟩;have n5_ : Aside0 (Below w.heap.size w w67) := ⟨by rw [← hq_];exact eB⟩;clear HO_8 BK121 BK122 BK125 BK132 HB hq_;have HO_8 := n0_;have BK121 := n1_;have BK122 := n2_;have BK125 := n3_;have BK132 := n4_;have HB := n5_;clear n0_ n1_ n2_ n3_ n4_ n5_));replace HO_8 := Aside0.mk (Kd.R_drew HO_8.out);replace BK121 := Aside0.mk (blk_drew BK121.out);replace BK122 := Aside0.mk (blk_drew BK122.out);replace BK125 := Aside0.mk (blk_drew BK125.out);replace BK132 := Aside0.mk (blk_drew BK132.out);replace HB := Aside0.mk (below_drew1 HB.out);obtain ⟨i070, hi070, _, hsz70, _⟩ := info_parts info9;obtain ⟨A70, hcut70, hA70, hC70⟩ := print_mid_of (P := Try.prog) Value.string (⟨#[]⟩ : ByteArray) 25 9 .i64 .i64 Try.underlying25 hi070 hsz70 A1 c1 l1 x9_1 ((rd_T47 l0_0 x27_1).f0) (dA) (by first|omega|exact dA) (dA) HC1.out;have HR137 := Aside0.mk (Kd.C_of_reads (h1 := fun _ => rfl) (hA70 _ (Kd.reads_of_C HR1.out)));have HC137 := Aside0.mk hC70;clear hA70 hC70 hi070 hsz70;refine start_ (n := 11) (S := fun w' => w'.cell? ⟨gb132, 0, none⟩ = some (.int .i64 ((rd_T47 l0_0 x27_1).f0)) ∧ w'.cell? ⟨gb132, 1, none⟩ = some (.slice A131_1 ((rd_T47 l0_0 x27_1).f1).length c131_1) ∧ w'.cell? ⟨gb132, 2, none⟩ = some (.slice A131_2 ((rd_T47 l0_0 x27_1).f2).length c131_2)) (ds := []) (mb 11 0) (by kernel_rfl) rfl (by kernel_rfl) ⟨(blk_cell BK132.out 0).trans rfl, (blk_cell BK132.out 1).trans rfl, (blk_cell BK132.out 2).trans rfl⟩ (fun hHeld => ?_);refine with_tabW textpatch_Apply_0.tab14 textpatch_Apply_0.bits14 (fun HT_ HW_ => ?_);generalize w67.drew = w69 at HO_8 BK121 BK122 BK125 BK132 HB HR137 hHeld ⊢;refine pA 0 51 (mb 11 1) HT_ rfl rfl ?_;refine pA 1 52 (mb 11 3) HT_ rfl rfl ?_;refine pA 2 53 (mb 11 7) HT_ rfl rfl ?_;refine pA 3 54 (mb 11 15) HT_ rfl rfl ?_;refine pA 7 58 (mb 11 143) HT_ rfl rfl ?_;refine tA 4 55 (mb 11 159) HT_ HW_ hHeld rfl rfl (by rintro w' ⟨s0, s1, s2⟩;go_simp;with_reducible rfl) ?_;refine pA 5 56 (mb 11 191) HT_ rfl rfl ?_;refine tA 8 59 (mb 11 447) HT_ HW_ hHeld rfl rfl (by rintro w' ⟨s0, s1, s2⟩;go_simp;with_reducible rfl) ?_;refine one_ (i := 6) (N := some 57) (mb 11 511) rfl rfl (one_of HT_.out (by kernel_rfl)) (by decide) (fun K hK => ?_);refine Kd.R_append_rows_step Kd.string (w0 := w) w.heap.size (by rfl) (.tmp 51) (.tmp 56) 25 9 (.string ⟨#[]⟩) 16 rfl Try.underlying25 info9 rfl (by decide) (by omega) u8 x8_1 ((l1.take (((rd_T47 l0_0 x27_1).f0) : Int).toNat).drop (x9_1 : Int).toNat) _ _ _ (fun _ => True) (fun _ => False) rfl rfl ?aO ?aR (fun _ _ h => h) (fun _ h => h.elim) ?aF ?aB ?aS ?aL ?_;(case aR => first|(rw [← show ((l1.take (((rd_T47 l0_0 x27_1).f0) : Int).toNat).drop (x9_1 : Int).toNat).length = (((rd_T47 l0_0 x27_1).f0).toNat - x9_1.toNat) from (by rw [List.length_drop, List.length_take];have h_ : (((rd_T47 l0_0 x27_1).f0) : Int) ≤ (l1.length : Int) := dA;omega)];repeat (first|exact (Kd.C_below HR137.out HB.out)|(with_reducible refine Kd.C_alloc ?_ _)|(with_reducible refine Kd.C_drewN ?_ _)|(with_reducible refine Kd.C_drew ?_)))|(repeat (first|exact (Kd.C_below HR137.out HB.out)|(with_reducible refine Kd.C_alloc ?_ _)|(with_reducible refine Kd.C_drewN ?_ _)|(with_reducible refine Kd.C_drew ?_))));(case aB => exact eB);(case aF => exact (fun _ _ => trivial));(case aO => exact (rK HO_8));(case aS => exact (below_size eB));(case aL => have := LMc56.out;have hlx_ := (show ((l1.take (((rd_T47 l0_0 x27_1).f0) : Int).toNat).drop (x9_1 : Int).toNat).length = (((rd_T47 l0_0 x27_1).f0).toNat - x9_1.toNat) from (by rw [List.length_drop, List.length_take];have h_ : (((rd_T47 l0_0 x27_1).f0) : Int) ≤ (l1.length : Int) := dA;omega));omega)
                                    intro v139 w71 ho hb hg hat
                                    rw [← Ny138.out] at ho;have n0_ := Aside0.mk (blk_grown (g := gb121) (o := .cells #[.slice (some ad131) l0_0.length c0_0] 24 (0, 0)) kK hg (Kd.R_ne HO_8.out BK121.out (by decide)));have n1_ := Aside0.mk (blk_grown (g := gb122) (o := .cells #[.int .i64 x123000_1, .int .i64 x123001_1] 27 (0, 0)) kK hg (Kd.R_ne HO_8.out BK122.out (by decide)));have n2_ := Aside0.mk (blk_grown (g := gb125) (o := .cells #[.int .i64 t123, .int .i64 t124] 27 (0, 0)) kK hg (Kd.R_ne HO_8.out BK125.out (by decide)));have n3_ := Aside0.mk (blk_grown (g := gb132) (o := .cells #[.int .i64 ((rd_T47 l0_0 x27_1).f0), .slice A131_1 ((rd_T47 l0_0 x27_1).f1).length c131_1, .slice A131_2 ((rd_T47 l0_0 x27_1).f2).length c131_2] 47 (0, 0)) kK hg (Kd.R_ne HO_8.out BK132.out (by decide)));have n4_ := Aside0.mk (hb);have n5_ := Aside0.mk (ho);clear BK121;clear BK122;clear BK125;clear BK132;clear HB;clear HO_8;have BK121 := n0_;have BK122 := n1_;have BK125 := n2_;have BK132 := n3_;have HB := n4_;have HO140 := n5_;clear n0_ n1_ n2_ n3_ n4_ n5_;clear ho hb hg hat;refine hK.out _ _ ⟨(blk_cell BK132.out 0).trans rfl, (blk_cell BK132.out 1).trans rfl, (blk_cell BK132.out 2).trans rfl⟩ (fun hHeld => ?_);clear hK K;refine nmA (some 57) ?_;refine one_ (i := 9) (N := some 60) (mb 11 1023) rfl rfl (one_of HT_.out (by kernel_rfl)) (by decide) (fun K hK => ?_);refine Kd.R_append_rows_step Kd.string (w0 := w) w.heap.size (by rfl) (.tmp 57) (.tmp 59) 25 9 (.string ⟨#[]⟩) 16 rfl Try.underlying25 info9 rfl (by decide) (by omega) v139 y138 ((rd_T47 l0_0 x27_1).f2) _ _ _ (fun _ => True) (fun _ => False) rfl rfl ?aO ?aR (fun _ _ h => h) (fun _ h => h.elim) ?aF ?aB ?aS ?aL ?_;(case aR => repeat (first|exact (Kd.C_below HR131_2.out HB.out)|(with_reducible refine Kd.C_alloc ?_ _)|(with_reducible refine Kd.C_drewN ?_ _)|(with_reducible refine Kd.C_drew ?_)));(case aB => exact eB);(case aF => exact (fun _ _ => trivial));(case aO => exact (rK HO140));(case aS => exact (below_size eB));(case aL => have := LMc57.out;omega)
                                    intro v142 w72 ho hb hg hat
                                    rw [← Ny141.out] at ho;have n0_ := Aside0.mk (blk_grown (g := gb121) (o := .cells #[.slice (some ad131) l0_0.length c0_0] 24 (0, 0)) kK hg (Kd.R_ne HO140.out BK121.out (by decide)));have n1_ := Aside0.mk (blk_grown (g := gb122) (o := .cells #[.int .i64 x123000_1, .int .i64 x123001_1] 27 (0, 0)) kK hg (Kd.R_ne HO140.out BK122.out (by decide)));have n2_ := Aside0.mk (blk_grown (g := gb125) (o := .cells #[.int .i64 t123, .int .i64 t124] 27 (0, 0)) kK hg (Kd.R_ne HO140.out BK125.out (by decide)));have n3_ := Aside0.mk (blk_grown (g := gb132) (o := .cells #[.int .i64 ((rd_T47 l0_0 x27_1).f0), .slice A131_1 ((rd_T47 l0_0 x27_1).f1).length c131_1, .slice A131_2 ((rd_T47 l0_0 x27_1).f2).length c131_2] 47 (0, 0)) kK hg (Kd.R_ne HO140.out BK132.out (by decide)));have n4_ := Aside0.mk (hb);have n5_ := Aside0.mk (ho);clear BK121;clear BK122;clear BK125;clear BK132;clear HB;clear HO140;have BK121 := n0_;have BK122 := n1_;have BK125 := n2_;have BK132 := n3_;have HB := n4_;have HO143 := n5_;clear n0_ n1_ n2_ n3_ n4_ n5_;clear ho hb hg hat;refine hK.out _ _ ⟨(blk_cell BK132.out 0).trans rfl, (blk_cell BK132.out 1).trans rfl, (blk_cell BK132.out 2).trans rfl⟩ (fun hHeld => ?_);clear hK K;refine nmA (some 60) ?_;refine pA 10 8 (mb 11 2047) HT_ rfl rfl ?_;refine done_ (done_of HT_.out (by kernel_rfl)) ?_;have hcz73_0 := hC BK132 0 (.int .i64 ((rd_T47 l0_0 x27_1).f0));have hcz73_1 := hC BK132 1 (.slice A131_1 ((rd_T47 l0_0 x27_1).f1).length c131_1);have hcz73_2 := hC BK132 2 (.slice A131_2 ((rd_T47 l0_0 x27_1).f2).length c131_2);have hfz73_0 := blk_frozen BK132.out 0;have hfz73_1 := blk_frozen BK132.out 1;have hfz73_2 := blk_frozen BK132.out 2
                                    try go_wp2_with (first|((with_reducible refine gate_callee (f := 33) rfl ?_);refine goesL_ (some 62) rfl rfl Try.func33 (by kernel_rfl) rfl #[.agg #[.int .i64 ((rd_T47 l0_0 x27_1).f0), .slice A131_1 ((rd_T47 l0_0 x27_1).f1).length c131_1, .slice A131_2 ((rd_T47 l0_0 x27_1).f2).length c131_2]] rfl mA ?_;(with_reducible refine (textpatch_End.calls ((rd_T47 l0_0 x27_1).f0) _ _ ((rd_T47 l0_0 x27_1).f1) _ _ ((rd_T47 l0_0 x27_1).f2) t144 _ ?side1 ?side2 ?side3 ?side4 A58.out).mono ?_);(case side1 => exact cBe HR131_1);(case side2 => exact HC131_1.out);(case side3 => exact cBe HR131_2);(case side4 => exact HC131_2.out);rintro e w74 ⟨rfl, hb⟩;refine ⟨_, rfl, ?_⟩;replace HO143 := rL HO143 hb;replace BK121 := lJ BK121 hb;replace BK122 := lJ BK122 hb;replace BK125 := lJ BK125 hb;replace BK132 := lJ BK132 hb;replace HB := sBe HB hb;(try clear hb)))
                                    go_roundg k1
                                    case measure => have := HK1.out;omega
                                    case rel => exact ⟨(y141), (t144), (wrap64 (x27_1 + 1)), (x123000_1), (x123001_1), (by first|rfl|(simp only [i64_w, i32_w];done)|(simp only [i64_w, i32_w];rfl)|(simp;done)|(simp [*];done)), (by first|rfl|(simp only [i64_w, i32_w];done)|(simp only [i64_w, i32_w];rfl)|(simp;done)|(simp [*];done)), H', ⟨by have := HK1.out;omega⟩, ⟨by (with_reducible repeat first|apply rA|apply rN|apply rD);exact HO143.out⟩, ⟨kK⟩, ⟨kK⟩, ⟨kK⟩, ⟨eB⟩⟩
                                  · rw [if_neg c57] at H;exact absurd H (by simp)
                                · rw [if_neg c56] at H;exact absurd H (by simp)
                              · rw [if_neg c55] at H;exact absurd H (by simp)
                            · rw [if_neg c54] at H;exact absurd H (by simp)
                          · rw [if_neg c53] at H;exact absurd H (by simp)
                        · replace c52 := Bool.eq_false_iff.mpr c52;subst c52;have H1 : (some (([] : List ByteArray), 19, x27_1)) = some (r1, r2, r3) := (by rw [if_neg (show ¬ (false = true) by decide)] at H;exact H);clear H;have H := H1;clear H1;simp only [Option.some.injEq, Prod.mk.injEq] at H;obtain ⟨rfl, rfl, rfl⟩ := H;have p131 : 0 ≤ (x27_1 : Int) := dA;have q131 : x27_1 < (l0_0.length : Int) := dA;obtain ⟨ad131, A131_1, c131_1, A131_2, c131_2, e131, hx131_0, hx131_1, hx131_2, hl131_1, hi131_1, hl131_2, hi131_2⟩ := at_T47 HR0_0.out x27_1 p131 q131
                          cases e131
                          replace hx131_0 := (hX HB hx131_0:);replace hx131_1 := (hX HB hx131_1:);replace hx131_2 := (hX HB hx131_2:);have HR131_1 := Aside0.mk hi131_1;have HC131_1 := Aside0.mk hl131_1;clear hi131_1 hl131_1;have HR131_2 := Aside0.mk hi131_2;have HC131_2 := Aside0.mk hl131_2;clear hi131_2 hl131_2;replace p131 := eq_true p131;replace q131 := eq_true q131
                          try go_wp2_with (first|((with_reducible refine gate_dst (N := 11) rfl ?_);refine bE 11 #[.int .i64 0, .slice none 0 0, .slice none 0 0] 47 ?_;intro gb132 hg w75 hbox hb;have BK132 := Aside0.mk (hbox);have GW132 := gBe HB hg;have GE132 := gBe HB hg;have NB121_132 := nL BK121 hg;have NB132_121 := nG BK121 hg;have NB122_132 := nL BK122 hg;have NB132_122 := nG BK122 hg;have NB125_132 := nL BK125 hg;have NB132_125 := nG BK125 hg;replace HO_8 := rL HO_8 hb;replace BK121 := lJ BK121 hb;replace BK122 := lJ BK122 hb;replace BK125 := lJ BK125 hb;replace HB := sBe HB hb;clear hb hbox hg;have hnb76 := eq_false NB132_121.out;have hnc76 := eq_false NB121_132.out;have hnb77 := eq_false NB132_122.out;have hnc77 := eq_false NB122_132.out;have hnb78 := eq_false NB132_125.out;have hnc78 := eq_false NB125_132.out;have hcz79_0 := hC BK132 0 (.int .i64 0);have hcz79_1 := hC BK132 1 (.slice none 0 0);have hcz79_2 := hC BK132 2 (.slice none 0 0);have hfz79_0 := blk_frozen BK132.out 0;have hfz79_1 := blk_frozen BK132.out 1;have hfz79_2 := blk_frozen BK132.out 2))
                          obtain ⟨w80, hW_⟩ : ∃ w_, w_ = (((w75.setCell ⟨gb132, 0, none⟩ (.int .i64 ((rd_T47 l0_0 x27_1).f0))).setCell ⟨gb132, 1, none⟩ (.slice A131_1 ((rd_T47 l0_0 x27_1).f1).length c131_1)).setCell ⟨gb132, 2, none⟩ (.slice A131_2 ((rd_T47 l0_0 x27_1).f2).length c131_2)) := ⟨_, rfl⟩;have n0_ : Aside0 (Kd.R Kd.string 9 w80 w.heap.size (fun _ => True) u8 x8_1) := ⟨by rw [hW_];(with_reducible repeat first|apply rA|apply rN|apply rD);exact Kd.R_mono (Kd.R_far (p := ⟨gb132, 2, none⟩) (Kd.R_far (p := ⟨gb132, 1, none⟩) (Kd.R_far (p := ⟨gb132, 0, none⟩) (Kd.R_types HO_8.out BK132.out (by decide)) (fun _ hk => hk.2) (.int .i64 ((rd_T47 l0_0 x27_1).f0))) (fun _ hk => hk.2) (.slice A131_1 ((rd_T47 l0_0 x27_1).f1).length c131_1)) (fun _ hk => hk.2) (.slice A131_2 ((rd_T47 l0_0 x27_1).f2).length c131_2)) (fun _ hk => trivial)⟩;have n1_ : Bk w80 gb121 24 #[.slice (some ad131) l0_0.length c0_0] := ⟨by rw [hW_];exact kK⟩;have n2_ : Bk w80 gb122 27 #[.int .i64 x123000_1, .int .i64 x123001_1] := ⟨by rw [hW_];exact kK⟩;have n3_ : Bk w80 gb125 27 #[.int .i64 t123, .int .i64 t124] := ⟨by rw [hW_];exact kK⟩;have n4_ : Bk w80 gb132 47 #[.int .i64 ((rd_T47 l0_0 x27_1).f0), .slice A131_1 ((rd_T47 l0_0 x27_1).f1).length c131_1, .slice A131_2 ((rd_T47 l0_0 x27_1).f2).length c131_2] := ⟨by rw [hW_];exact kK⟩;have n5_ : Aside0 (Below w.heap.size w w80) := ⟨by rw [hW_];exact eB⟩;(try clear HO_8);(try clear BK121);(try clear BK122);(try clear BK125);(try clear BK132);(try clear HB);(try rw [← hW_]);clear hW_;have HO_8 := n0_;have BK121 := n1_;have BK122 := n2_;have BK125 := n3_;have BK132 := n4_;have HB := n5_;clear n0_ n1_ n2_ n3_ n4_ n5_;replace HO_8 := Aside0.mk (Kd.R_drew HO_8.out);replace BK121 := Aside0.mk (blk_drew BK121.out);replace BK122 := Aside0.mk (blk_drew BK122.out);replace BK125 := Aside0.mk (blk_drew BK125.out);replace BK132 := Aside0.mk (blk_drew BK132.out);replace HB := Aside0.mk (below_drew1 HB.out);refine start_ (n := 17) (S := fun w' => w'.cell? ⟨gb132, 0, none⟩ = some (.int .i64 ((rd_T47 l0_0 x27_1).f0)) ∧ w'.cell? ⟨gb132, 1, none⟩ = some (.slice A131_1 ((rd_T47 l0_0 x27_1).f1).length c131_1) ∧ w'.cell? ⟨gb132, 2, none⟩ = some (.slice A131_2 ((rd_T47 l0_0 x27_1).f2).length c131_2)) (ds := []) (mb 17 0) (by kernel_rfl) rfl (by kernel_rfl) ⟨(blk_cell BK132.out 0).trans rfl, (blk_cell BK132.out 1).trans rfl, (blk_cell BK132.out 2).trans rfl⟩ (fun hHeld => ?_);refine with_tabW textpatch_Apply_0.tab12 textpatch_Apply_0.bits12 (fun HT_ HW_ => ?_);generalize w80.drew = w81 at HO_8 BK121 BK122 BK125 BK132 HB hHeld ⊢;refine pA 2 34 (mb 17 4) HT_ rfl rfl ?_;refine pA 3 35 (mb 17 12) HT_ rfl rfl ?_;refine tA 0 32 (mb 17 13) HT_ HW_ hHeld rfl rfl (by rintro w' ⟨s0, s1, s2⟩;go_simp;with_reducible rfl) ?_;refine one_ (i := 1) (N := some 33) (mb 17 15) rfl rfl (one_of HT_.out (by kernel_rfl)) (by decide) (fun K hK => ?_);refine goes_ Try.func33 (by kernel_rfl) rfl #[.agg #[.int .i64 ((rd_T47 l0_0 x27_1).f0), .slice A131_1 ((rd_T47 l0_0 x27_1).f1).length c131_1, .slice A131_2 ((rd_T47 l0_0 x27_1).f2).length c131_2]] (by rfl) rfl rfl mA ?_
                          with_reducible refine (textpatch_End.calls ((rd_T47 l0_0 x27_1).f0) _ _ ((rd_T47 l0_0 x27_1).f1) _ _ ((rd_T47 l0_0 x27_1).f2) t133 _ ?side1 ?side2 ?side3 ?side4 A34.out).mono ?_
                          (case side1 => exact cBe HR131_1);(case side2 => exact HC131_1.out);(case side3 => exact cBe HR131_2);(case side4 => exact HC131_2.out)
                          rintro e w82 ⟨rfl, hb⟩
                          refine ⟨_, rfl, ?_⟩;replace HO_8 := rL HO_8 hb;replace BK121 := lJ BK121 hb;replace BK122 := lJ BK122 hb;replace BK125 := lJ BK125 hb;replace BK132 := lJ BK132 hb;replace HB := sBe HB hb;(try clear hb);refine hK.out _ _ ⟨(blk_cell BK132.out 0).trans rfl, (blk_cell BK132.out 1).trans rfl, (blk_cell BK132.out 2).trans rfl⟩ (fun hHeld => ?_);clear hK K;refine nmA (some 33) ?_;refine pA 4 36 (mb 17 31) HT_ rfl rfl ?_;refine pA 5 37 (mb 17 63) HT_ rfl rfl ?_;refine pA 6 38 (mb 17 127) HT_ rfl rfl ?_;refine pA 7 39 (mb 17 255) HT_ rfl rfl ?_;refine pA 12 44 (mb 17 4351) HT_ rfl rfl ?_;refine tA 8 40 (mb 17 4607) HT_ HW_ hHeld rfl rfl (by rintro w' ⟨s0, s1, s2⟩;go_simp;with_reducible rfl) ?_;refine tA 9 41 (mb 17 5119) HT_ HW_ hHeld rfl rfl (by rintro w' ⟨s0, s1, s2⟩;go_simp;with_reducible rfl) ?_;refine tA 13 45 (mb 17 13311) HT_ HW_ hHeld rfl rfl (by rintro w' ⟨s0, s1, s2⟩;go_simp;with_reducible rfl) ?_;refine one_ (i := 10) (N := some 42) (mb 17 14335) rfl rfl (one_of HT_.out (by kernel_rfl)) (by decide) (fun K hK => ?_);refine goes_ Try.func33 (by kernel_rfl) rfl #[.agg #[.int .i64 ((rd_T47 l0_0 x27_1).f0), .slice A131_1 ((rd_T47 l0_0 x27_1).f1).length c131_1, .slice A131_2 ((rd_T47 l0_0 x27_1).f2).length c131_2]] (by rfl) rfl rfl mA ?_
                          with_reducible refine (textpatch_End.calls ((rd_T47 l0_0 x27_1).f0) _ _ ((rd_T47 l0_0 x27_1).f1) _ _ ((rd_T47 l0_0 x27_1).f2) t134 _ ?side1 ?side2 ?side3 ?side4 A47.out).mono ?_
                          (case side1 => exact cBe HR131_1);(case side2 => exact HC131_1.out);(case side3 => exact cBe HR131_2);(case side4 => exact HC131_2.out)
                          rintro e w83 ⟨rfl, hb⟩
                          refine ⟨_, rfl, ?_⟩;replace HO_8 := rL HO_8 hb;replace BK121 := lJ BK121 hb;replace BK122 := lJ BK122 hb;replace BK125 := lJ BK125 hb;replace BK132 := lJ BK132 hb;replace HB := sBe HB hb;(try clear hb);obtain ⟨i084, hi084, _, hsz84, _⟩ := info_parts info9;obtain ⟨A84, hcut84, hA84, hC84⟩ := print_mid_of (P := Try.prog) Value.string (⟨#[]⟩ : ByteArray) 25 9 .i64 .i64 Try.underlying25 hi084 hsz84 A1 c1 l1 ((rd_T47 l0_0 x27_1).f0) t134 (dA) (by first|omega|exact dA) (dA) HC1.out;have HR135 := Aside0.mk (Kd.C_of_reads (h1 := fun _ => rfl) (hA84 _ (Kd.reads_of_C HR1.out)));have HC135 := Aside0.mk hC84;clear hA84 hC84 hi084 hsz84;refine hK.out _ _ ⟨(blk_cell BK132.out 0).trans rfl, (blk_cell BK132.out 1).trans rfl, (blk_cell BK132.out 2).trans rfl⟩ (fun hHeld => ?_);clear hK K;refine nmA (some 42) ?_;refine pA 11 43 (mb 17 16383) HT_ rfl rfl ?_;refine one_ (i := 14) (N := some 46) (mb 17 32767) rfl rfl (one_of HT_.out (by kernel_rfl)) (by decide) (fun K hK => ?_);refine goes_ Try.func34 (by kernel_rfl) rfl #[.slice A84 ((l1.take (t134 : Int).toNat).drop (((rd_T47 l0_0 x27_1).f0) : Int).toNat).length (c1 - ((rd_T47 l0_0 x27_1).f0).toNat), .slice A131_1 ((rd_T47 l0_0 x27_1).f1).length c131_1] (by rfl) rfl rfl (by (try simp only [List.map_toArray, List.map_cons, List.map_nil]);first|done|(rw [show ((l1.take (t134 : Int).toNat).drop (((rd_T47 l0_0 x27_1).f0) : Int).toNat).length = (t134.toNat - ((rd_T47 l0_0 x27_1).f0).toNat) from (by rw [List.length_drop, List.length_take];have h_ : (t134 : Int) ≤ (l1.length : Int) := dA;omega)] <;> rfl)|rfl|(simp only [List.length_drop, List.length_take];rfl)) ?_
                          with_reducible refine (slices_Equal_string_string.calls _ _ ((l1.take (t134 : Int).toNat).drop (((rd_T47 l0_0 x27_1).f0) : Int).toNat) _ _ ((rd_T47 l0_0 x27_1).f1) false _ ?side1 ?side2 ?side3 ?side4 A51.out).mono ?_
                          (case side1 => exact cBe HR135);(case side2 => exact HC135.out);(case side3 => exact cBe HR131_1);(case side4 => exact HC131_1.out)
                          rintro e w' ⟨rfl, ⟨nd, rfl⟩⟩
                          refine ⟨_, rfl, ?_⟩;refine hK.out _ _ ⟨(blk_cell BK132.out 0).trans rfl, (blk_cell BK132.out 1).trans rfl, (blk_cell BK132.out 2).trans rfl⟩ (fun hHeld => ?_);clear hK K;refine nmA (some 46) ?_;refine pA 15 47 (mb 17 65535) HT_ rfl rfl ?_;refine pA 16 48 (mb 17 131071) HT_ rfl rfl ?_;refine done_ (done_of HT_.out (by kernel_rfl)) ?_;have hnb85 := eq_false NB122_121.out;have hnc85 := eq_false NB121_122.out;have hnb86 := eq_false NB122_125.out;have hnc86 := eq_false NB125_122.out;have hcz87_0 := hC BK122 0 (.int .i64 x123000_1);have hcz87_1 := hC BK122 1 (.int .i64 x123001_1);have hfz87_0 := blk_frozen BK122.out 0;have hfz87_1 := blk_frozen BK122.out 1
                          try go_wp2
                          refine bodyPost_ret (results_tc rfl _ _ gb122 27 #[.int .i64 19, .int .i64 x27_1] (0, 0) _ rfl kK Try.underlying27 rfl (by kernel_rfl)) rfl ?_;exact ⟨_, rW, by first|exact Kd.R_nil _ _ _ _ _|exact Kd.N_nil _ _ _ _ _|exact Kd.V_nil _ _ _ _ _|exact Kd.Q_nil _ _ _ _ _|exact Kd.S_nil _ _ _ _ _, eB⟩
                      · rw [if_neg c50] at H;exact absurd H (by simp)
                    · rw [if_neg c49] at H;exact absurd H (by simp)
                  · rw [if_neg c48] at H;exact absurd H (by simp)
              · rw [if_neg c33] at H;exact absurd H (by simp)
            · rw [if_neg c32] at H;exact absurd H (by simp)
          · rw [if_neg c31] at H;have c31b0 : decide (x27_1 < (l0_0.length : Int)) = false := decide_eq_false c31;clear c31
            by_cases c88 : 0 ≤ x9_1
            · rw [if_pos c88] at H;have c88b0 := eq_true c88;have c88b1 : decide (0 ≤ x9_1) = true := decide_eq_true c88;clear c88
              by_cases c89 : x9_1 ≤ (l1.length : Int)
              · rw [if_pos c89] at H;have c89b0 := eq_true c89;have c89b1 : decide (x9_1 ≤ (l1.length : Int)) = true := decide_eq_true c89;clear c89
                by_cases c90 : x8_1.length + (l1.drop (x9_1 : Int).toNat).length < 8796093022208
                · rw [if_pos c90] at H;have LMc90 := Aside0.mk c90;clear c90;obtain ⟨y128, hy128⟩ : ∃ y_ : List ByteArray, y_ = (x8_1 ++ (l1.drop (x9_1 : Int).toNat)) := ⟨_, rfl⟩;replace H : (if (y128.length : Int) > 120 then (some (([] : List ByteArray), 10, (-1))) else (some (y128, 0, 0))) = some (r1, r2, r3) := (by first|(rw [hy128];with_reducible exact H)|(have H2_ := (Option.bind_some _ _).symm.trans H;rw [hy128];with_reducible exact H2_)|(have H2_ := (Option.bind_some _ _).symm.trans H;with_reducible exact H2_)|with_reducible exact H|(rw [hy128];exact H)|exact H);have Ny128 := Aside0.mk hy128;clear hy128
                  by_cases c91 : (y128.length : Int) > 120
                  · rw [if_pos c91] at H;have c91b0 : decide (120 < (y128.length : Int)) = true := decide_eq_true c91;have c91b1 : decide (120 < y128.length) = true := decide_eq_true (by omega);clear c91;simp only [Option.some.injEq, Prod.mk.injEq] at H;obtain ⟨rfl, rfl, rfl⟩ := H;obtain ⟨i092, hi092, _, hsz92, _⟩ := info_parts info9;obtain ⟨A92, hcut92, hA92, hC92⟩ := print_drop_of (P := Try.prog) Value.string (⟨#[]⟩ : ByteArray) 25 9 .i64 Try.underlying25 hi092 hsz92 A1 c1 l1 x9_1 (dA) (dA) HC1.out;have HR127 := Aside0.mk (Kd.C_of_reads (h1 := fun _ => rfl) (hA92 _ (Kd.reads_of_C HR1.out)));have HC127 := Aside0.mk hC92;clear hA92 hC92 hi092 hsz92
                    go_wp2_with (first|((with_reducible refine gate_builtin (b := .append) (xs := #[.tmp 64, .tmp 67]) rfl ?_);at_builtin;refine Kd.R_append_rows Kd.string (w0 := w) w.heap.size rfl (.tmp 64) (.tmp 67) 25 9 (.string ⟨#[]⟩) 16 rfl Try.underlying25 info9 rfl (by decide) (by omega) u8 x8_1 (l1.drop (x9_1 : Int).toNat) _ _ _ (fun _ => True) (fun _ => False) rfl rfl ?aO ?aR (fun _ _ h => h) (fun _ h => h.elim) ?aF ?aB ?aS ?aL ?_;(case aR => first|(rw [← show (l1.drop (x9_1 : Int).toNat).length = (l1.length - x9_1.toNat) from List.length_drop];repeat (first|exact (Kd.C_below HR127.out HB.out)|(with_reducible refine Kd.C_alloc ?_ _)|(with_reducible refine Kd.C_drewN ?_ _)|(with_reducible refine Kd.C_drew ?_)))|(repeat (first|exact (Kd.C_below HR127.out HB.out)|(with_reducible refine Kd.C_alloc ?_ _)|(with_reducible refine Kd.C_drewN ?_ _)|(with_reducible refine Kd.C_drew ?_))));(case aB => exact eB);(case aF => exact (fun _ _ => trivial));(case aO => exact (rK HO_8));(case aS => exact (below_size eB));(case aL => have := LMc90.out;have hlx_ := (show (l1.drop (x9_1 : Int).toNat).length = (l1.length - x9_1.toNat) from List.length_drop);omega);intro v129 w93 ho hb hg hat;rw [← Ny128.out] at ho;have n0_ := Aside0.mk (blk_grown (g := gb121) (o := .cells #[.slice A0_0 l0_0.length c0_0] 24 (0, 0)) kK hg (Kd.R_ne HO_8.out BK121.out (by decide)));have n1_ := Aside0.mk (blk_grown (g := gb122) (o := .cells #[.int .i64 x123000_1, .int .i64 x123001_1] 27 (0, 0)) kK hg (Kd.R_ne HO_8.out BK122.out (by decide)));have n2_ := Aside0.mk (blk_grown (g := gb125) (o := .cells #[.int .i64 t123, .int .i64 t124] 27 (0, 0)) kK hg (Kd.R_ne HO_8.out BK125.out (by decide)));have n3_ := Aside0.mk (hb);have n4_ := Aside0.mk (ho);clear BK121;clear BK122;clear BK125;clear HB;clear HO_8;have BK121 := n0_;have BK122 := n1_;have BK125 := n2_;have HB := n3_;have HO130 := n4_;clear n0_ n1_ n2_ n3_ n4_;clear ho hb hg hat;obtain ⟨Ao94, co94, eo94⟩ := Kd.R_slice HO130.out;subst eo94;have hnb95 := eq_false NB122_121.out;have hnc95 := eq_false NB121_122.out;have hnb96 := eq_false NB122_125.out;have hnc96 := eq_false NB125_122.out;have hcz97_0 := hC BK122 0 (.int .i64 x123000_1);have hcz97_1 := hC BK122 1 (.int .i64 x123001_1);have hfz97_0 := blk_frozen BK122.out 0;have hfz97_1 := blk_frozen BK122.out 1))
                    refine bodyPost_ret (results_tc rfl _ _ gb122 27 #[.int .i64 10, .int .i64 (-1)] (0, 0) _ rfl kK Try.underlying27 rfl (by kernel_rfl)) rfl ?_;exact ⟨_, rW, by first|exact Kd.R_nil _ _ _ _ _|exact Kd.N_nil _ _ _ _ _|exact Kd.V_nil _ _ _ _ _|exact Kd.Q_nil _ _ _ _ _|exact Kd.S_nil _ _ _ _ _, eB⟩
                  · rw [if_neg c91] at H;have c91b0 : decide (120 < (y128.length : Int)) = false := decide_eq_false c91;have c91b1 : decide (120 < y128.length) = false := decide_eq_false (by omega);clear c91;simp only [Option.some.injEq, Prod.mk.injEq] at H;obtain ⟨rfl, rfl, rfl⟩ := H;obtain ⟨i098, hi098, _, hsz98, _⟩ := info_parts info9;obtain ⟨A98, hcut98, hA98, hC98⟩ := print_drop_of (P := Try.prog) Value.string (⟨#[]⟩ : ByteArray) 25 9 .i64 Try.underlying25 hi098 hsz98 A1 c1 l1 x9_1 (dA) (dA) HC1.out;have HR127 := Aside0.mk (Kd.C_of_reads (h1 := fun _ => rfl) (hA98 _ (Kd.reads_of_C HR1.out)));have HC127 := Aside0.mk hC98;clear hA98 hC98 hi098 hsz98
                    go_wp2_with (first|((with_reducible refine gate_builtin (b := .append) (xs := #[.tmp 64, .tmp 67]) rfl ?_);at_builtin;refine Kd.R_append_rows Kd.string (w0 := w) w.heap.size rfl (.tmp 64) (.tmp 67) 25 9 (.string ⟨#[]⟩) 16 rfl Try.underlying25 info9 rfl (by decide) (by omega) u8 x8_1 (l1.drop (x9_1 : Int).toNat) _ _ _ (fun _ => True) (fun _ => False) rfl rfl ?aO ?aR (fun _ _ h => h) (fun _ h => h.elim) ?aF ?aB ?aS ?aL ?_;(case aR => first|(rw [← show (l1.drop (x9_1 : Int).toNat).length = (l1.length - x9_1.toNat) from List.length_drop];repeat (first|exact (Kd.C_below HR127.out HB.out)|(with_reducible refine Kd.C_alloc ?_ _)|(with_reducible refine Kd.C_drewN ?_ _)|(with_reducible refine Kd.C_drew ?_)))|(repeat (first|exact (Kd.C_below HR127.out HB.out)|(with_reducible refine Kd.C_alloc ?_ _)|(with_reducible refine Kd.C_drewN ?_ _)|(with_reducible refine Kd.C_drew ?_))));(case aB => exact eB);(case aF => exact (fun _ _ => trivial));(case aO => exact (rK HO_8));(case aS => exact (below_size eB));(case aL => have := LMc90.out;have hlx_ := (show (l1.drop (x9_1 : Int).toNat).length = (l1.length - x9_1.toNat) from List.length_drop);omega);intro v129 w99 ho hb hg hat;rw [← Ny128.out] at ho;have n0_ := Aside0.mk (blk_grown (g := gb121) (o := .cells #[.slice A0_0 l0_0.length c0_0] 24 (0, 0)) kK hg (Kd.R_ne HO_8.out BK121.out (by decide)));have n1_ := Aside0.mk (blk_grown (g := gb122) (o := .cells #[.int .i64 x123000_1, .int .i64 x123001_1] 27 (0, 0)) kK hg (Kd.R_ne HO_8.out BK122.out (by decide)));have n2_ := Aside0.mk (blk_grown (g := gb125) (o := .cells #[.int .i64 t123, .int .i64 t124] 27 (0, 0)) kK hg (Kd.R_ne HO_8.out BK125.out (by decide)));have n3_ := Aside0.mk (hb);have n4_ := Aside0.mk (ho);clear BK121;clear BK122;clear BK125;clear HB;clear HO_8;have BK121 := n0_;have BK122 := n1_;have BK125 := n2_;have HB := n3_;have HO130 := n4_;clear n0_ n1_ n2_ n3_ n4_;clear ho hb hg hat;obtain ⟨Ao100, co100, eo100⟩ := Kd.R_slice HO130.out;subst eo100;have hnb101 := eq_false NB122_121.out;have hnc101 := eq_false NB121_122.out;have hnb102 := eq_false NB122_125.out;have hnc102 := eq_false NB125_122.out;have hcz103_0 := hC BK122 0 (.int .i64 x123000_1);have hcz103_1 := hC BK122 1 (.int .i64 x123001_1);have hfz103_0 := blk_frozen BK122.out 0;have hfz103_1 := blk_frozen BK122.out 1))
                    refine bodyPost_ret (results_tc rfl _ _ gb122 27 #[.int .i64 0, .int .i64 0] (0, 0) _ rfl kK Try.underlying27 rfl (by kernel_rfl)) rfl ?_;exact ⟨_, rW, by (with_reducible repeat first|apply rA|apply rN|apply rD);exact Kd.R_mono (Kd.R_far (p := ⟨gb122, 1, none⟩) (Kd.R_far (p := ⟨gb122, 0, none⟩) (Kd.R_types HO130.out BK122.out (by decide)) (fun _ hk => hk.2) (.int .i64 0)) (fun _ hk => hk.2) (.int .i64 0)) (fun _ hk => trivial), eB⟩
                · rw [if_neg c90] at H;exact absurd H (by simp)
              · rw [if_neg c89] at H;exact absurd H (by simp)
            · rw [if_neg c88] at H;exact absurd H (by simp)
    · rw [if_neg c19] at H;have c19b0 : (t126 == 0) = false := beq_eq_false_iff_ne.mpr c19;have c19b1 : (t126 != 0) = true := bne_iff_ne.mpr c19;simp only [Option.some.injEq, Prod.mk.injEq] at H;obtain ⟨rfl, rfl, rfl⟩ := H
      go_enter Try.func15, Try.ntmps15
      go_wp2_with (first|((with_reducible refine gate_dst (N := 2) rfl ?_);refine bE 2 #[.slice A0_0 l0_0.length c0_0] 24 ?_;intro gb121 hg w104 hbox hb;have BK121 := Aside0.mk (hbox);have GW121 := gBe HB hg;have GE121 := gBe HB hg;replace HB := sBe HB hb;clear hb hbox hg)|((with_reducible refine gate_dst (N := 5) rfl ?_);refine bE 5 #[.int .i64 0, .int .i64 0] 27 ?_;intro gb122 hg w105 hbox hb;have BK122 := Aside0.mk (hbox);have GW122 := gBe HB hg;have GE122 := gBe HB hg;have NB121_122 := nL BK121 hg;have NB122_121 := nG BK121 hg;replace BK121 := lJ BK121 hb;replace HB := sBe HB hb;clear hb hbox hg;have hnb106 := eq_false NB121_122.out;have hnc106 := eq_false NB122_121.out;have hcz107_0 := hC BK121 0 (.slice A0_0 l0_0.length c0_0);have hfz107_0 := blk_frozen BK121.out 0)|((with_reducible refine gate_callee (f := 19) rfl ?_);refine goesL_ (some 13) rfl rfl Try.func19 (by kernel_rfl) rfl #[.agg #[.slice A0_0 l0_0.length c0_0]] rfl mA ?_;(with_reducible refine (textpatch_Validate.calls _ _ l0_0 t123 t124 _ ?side1 ?side2 A3.out).mono ?_);(case side1 => exact cBe HR0_0);(case side2 => exact HC0_0.out);rintro e w108 ⟨rfl, hb⟩;refine ⟨_, rfl, ?_⟩;replace BK121 := lJ BK121 hb;replace BK122 := lJ BK122 hb;replace HB := sBe HB hb;(try clear hb))|((with_reducible refine gate_dst (N := 6) rfl ?_);refine bE 6 #[.int .i64 0, .int .i64 0] 27 ?_;intro gb125 hg w109 hbox hb;have BK125 := Aside0.mk (hbox);have GW125 := gBe HB hg;have GE125 := gBe HB hg;have NB121_125 := nL BK121 hg;have NB125_121 := nG BK121 hg;have NB122_125 := nL BK122 hg;have NB125_122 := nG BK122 hg;replace BK121 := lJ BK121 hb;replace BK122 := lJ BK122 hb;replace HB := sBe HB hb;clear hb hbox hg;have hnb110 := eq_false NB125_121.out;have hnc110 := eq_false NB121_125.out;have hnb111 := eq_false NB125_122.out;have hnc111 := eq_false NB122_125.out;have hcz112_0 := hC BK125 0 (.int .i64 0);have hcz112_1 := hC BK125 1 (.int .i64 0);have hfz112_0 := blk_frozen BK125.out 0;have hfz112_1 := blk_frozen BK125.out 1)|((with_reducible refine gate_callee (f := 32) rfl ?_);refine goesL_ (some 19) rfl rfl Try.func32 (by kernel_rfl) rfl #[.slice A1 l1.length c1] rfl mA ?_;(with_reducible refine (lines_Code.calls _ _ l1 t126 _ ?side1 ?side2 A18.out).mono ?_);(case side1 => exact Kd.C_below HR1.out eB);(case side2 => exact HC1.out);rintro e w113 ⟨rfl, hb⟩;refine ⟨_, rfl, ?_⟩;replace BK121 := lJ BK121 hb;replace BK122 := lJ BK122 hb;replace BK125 := lK gb125 27 #[.int .i64 t123, .int .i64 t124] hb;replace HB := sBe HB hb;(try clear hb);have hcz114_0 := hC BK122 0 (.int .i64 0);have hcz114_1 := hC BK122 1 (.int .i64 0);have hfz114_0 := blk_frozen BK122.out 0;have hfz114_1 := blk_frozen BK122.out 1))
      refine bodyPost_ret (results_tc rfl _ _ gb122 27 #[.int .i64 t126, .int .i64 (-2)] (0, 0) _ rfl kK Try.underlying27 rfl (by kernel_rfl)) rfl ?_;exact ⟨_, rW, by first|exact Kd.R_nil _ _ _ _ _|exact Kd.N_nil _ _ _ _ _|exact Kd.V_nil _ _ _ _ _|exact Kd.Q_nil _ _ _ _ _|exact Kd.S_nil _ _ _ _ _, eB⟩

/-! ### textpatch_Apply: function 15 -/
theorem textpatch_Apply_0.loop (t : List ByteArray) (ht : t.length ≤ 120) (xs : List S47) (hl : xs.length ≤ 130) (d : Nat) : ∀ (k i : Nat) (at_ low : Int) (out : List ByteArray), i ≤ xs.length → xs.length - i = d → d < k →
    0 ≤ at_ → at_ ≤ low → at_ ≤ t.length → out.length ≤ 240 * i → okFrom ((xs.drop i).map (fun x_ : S47 => ((x_.f0, x_.f1, x_.f2) : Hk))) low → textpatch_Apply_0.l0 k t out at_ xs (xs.length : Int) (i : Int) = some (apGo t ((xs.drop i).map (fun x_ : S47 => ((x_.f0, x_.f1, x_.f2) : Hk))) at_ (i : Int) out) := by
  induction d with
  | zero =>
    intro k i at_ low out hi hd hk h0 h1 h2 h3 hok
    obtain ⟨k, rfl⟩ : ∃ m, k = m + 1 := ⟨k - 1, by omega⟩
    simp only [textpatch_Apply_0.l0]
    rw [if_neg (by omega), if_pos h0, if_pos h2, if_pos (by rw [List.length_drop]; omega), show xs.drop i = [] from List.drop_eq_nil_of_le (by omega)]
    simp only [Option.bind_some, List.map_nil, apGo]
    by_cases c : 120 < (out ++ t.drop at_.toNat).length
    · rw [if_pos (by omega), if_pos c]
    · rw [if_neg (by omega), if_neg c]
  | succ d ih =>
    intro k i at_ low out hi hd hk h0 h1 h2 h3 hok
    obtain ⟨k, rfl⟩ : ∃ m, k = m + 1 := ⟨k - 1, by omega⟩
    have hdr : xs.drop i = rd_T47 xs (i : Int) :: xs.drop (i + 1) := rdOf_drop z47 xs i (by omega)
    rw [hdr, List.map_cons] at hok ⊢
    simp only [textpatch_Apply_0.l0, textpatch_End.f, slices_Equal_string_string.f, Option.bind_some]
    generalize rd_T47 xs (i : Int) = h at *
    obtain ⟨⟨o1, o2, o3, o4, o5, o6, o7⟩, hok'⟩ := hok
    have l1 := (linesFault_ok.1 o4).1
    have l2 := (linesFault_ok.1 o5).1
    simp only at o1 o2 o3 l1 l2
    have he : hkEnd (h.f0, h.f1, h.f2) = h.f0 + (h.f1.length : Int) := rfl
    rw [if_pos (by omega), if_pos (by omega), if_pos (by omega), w64 (n := h.f0 + (h.f1.length : Int)) (by omega) (by omega), apGo, he]
    by_cases c1 : h.f0 + (h.f1.length : Int) ≤ t.length
    · rw [if_neg (by omega), if_pos (by omega), if_pos (by omega), if_pos c1]
      by_cases c2 : cutOut t h.f0 (h.f0 + (h.f1.length : Int)) = h.f1
      · have c2' : List.drop h.f0.toNat (List.take (h.f0 + (h.f1.length : Int)).toNat t) = h.f1 := c2
        rw [if_pos (by rw [c2']; simp), if_pos h0, if_pos (by omega), if_pos (by omega), if_pos (by rw [List.length_drop, List.length_take]; omega), if_pos (by rw [List.length_append, List.length_drop, List.length_take]; omega), if_pos ⟨c1, c2⟩, w64 (n := (i : Int) + 1) (by omega) (by omega)]
        have := ih k (i + 1) (h.f0 + (h.f1.length : Int)) (h.f0 + (h.f1.length : Int) + 1) (out ++ cutOut t at_ h.f0 ++ h.f2) (by omega) (by omega) (by omega) (by omega) (by omega) c1
          (by unfold cutOut; rw [List.length_append, List.length_append, List.length_drop, List.length_take]; omega) hok'
        rw [show ((i + 1 : Nat) : Int) = (i : Int) + 1 by omega] at this
        exact this
      · have c2' : ¬ List.drop h.f0.toNat (List.take (h.f0 + (h.f1.length : Int)).toNat t) = h.f1 := c2
        rw [if_neg (by simpa using c2'), if_neg (fun hh => c2 hh.2)]
    · rw [if_pos (by omega), if_neg (fun hh => c1 hh.1)]
def textpatch_Apply.f (l0_0 : List (S47)) (l1 : List ByteArray) : Option (List ByteArray × Int × Int) :=  some (applySpec (l0_0.map (fun x_ : S47 => ((x_.f0, x_.f1, x_.f2) : Hk))) l1)
theorem textpatch_Apply.calls (A0_0 : Option Addr) (c0_0 : Nat) (l0_0 : List (S47)) (A1 : Option Addr) (c1 : Nat) (l1 : List ByteArray) (r1 : List ByteArray) (r2 : Int) (r3 : Int) (w : World) (hr0_0 : Kd.C k47 w A0_0 l0_0.length l0_0) (hc0_0 : l0_0.length ≤ c0_0) (hr1 : Kd.C Kd.string w A1 l1.length l1) (hc1 : l1.length ≤ c1) (h : textpatch_Apply.f l0_0 l1 = some (r1, r2, r3)) :
    Calls Try.prog 15 #[.agg #[.slice A0_0 l0_0.length c0_0], .slice A1 l1.length c1] w fun e w' => ∃ v0_ : Value, e = .returned (.tuple #[v0_, .agg #[.int .i64 r2, .int .i64 r3]]) ∧ Kd.R Kd.string 9 w' w.heap.size (fun _ => True) v0_ r1 ∧ Below w.heap.size w w' := by
  have h' : textpatch_Apply_0.f 131 l0_0 l1 = some (r1, r2, r3) := by
    rw [← h]
    unfold textpatch_Apply_0.f textpatch_Apply.f applySpec
    simp only [textpatch_Validate.f, lines_Code.f, Option.bind_some, fault_ne (patchFault_or (l0_0.map (fun x_ : S47 => ((x_.f0, x_.f1, x_.f2) : Hk)))), decide_eq_true_iff]
    by_cases z : patchFault (l0_0.map (fun x_ : S47 => ((x_.f0, x_.f1, x_.f2) : Hk))) = (0, 0)
    · rw [if_neg (by simpa using z), if_pos z]
      by_cases c : (linesFault l1).1 = 0
      · rw [if_pos c, if_pos c]
        obtain ⟨z1, z2⟩ := patchFault_ok.1 z
        rw [List.length_map] at z1
        exact textpatch_Apply_0.loop l1 (linesFault_ok.1 (linesFault_zero c)).1 l0_0 z1 l0_0.length 131 0 0 0 [] (by omega) (by omega) (by omega) (by omega) (by omega) (by omega) (by simp) z2
      · rw [if_neg c, if_neg c]
    · rw [if_pos (by simpa using z), if_neg z]
  exact (textpatch_Apply_0.calls (131) A0_0 c0_0 l0_0 A1 c1 l1 r1 r2 r3 w hr0_0 hc0_0 hr1 hc1 (h'))


/-! ### changeforgeequal_Strings_0: function 21 -/
def changeforgeequal_Strings_0.l0 : Nat → List ByteArray → List ByteArray → Int → Option (Bool)
  | 0, _, _, _ => none
  | k + 1, x0, x1, x5 => if x5 < (x0.length : Int) then (if 0 ≤ x5 then (if x5 < (x1.length : Int) then (if (rdOf ByteArray.empty x0 x5).toList = (rdOf ByteArray.empty x1 x5).toList then (changeforgeequal_Strings_0.l0 k x0 x1 (wrap64 (x5 + 1))) else (some false)) else (none)) else (none)) else (some true)
def changeforgeequal_Strings_0.f (k : Nat) (l0 : List ByteArray) (l1 : List ByteArray) : Option (Bool) := if (l0.length : Int) = (l1.length : Int) then (changeforgeequal_Strings_0.l0 k l0 l1 0) else (some false)
theorem changeforgeequal_Strings_0.mono_l : ∀ k, (∀ y0 y1 y2, LeO (changeforgeequal_Strings_0.l0 k y0 y1 y2) (changeforgeequal_Strings_0.l0 (k + 1) y0 y1 y2))
  | 0 => fun _ _ _ r h => by simp [changeforgeequal_Strings_0.l0] at h
  | k + 1 => by
    have ih0 := changeforgeequal_Strings_0.mono_l k
    · intro y0 y1 y2
      unfold changeforgeequal_Strings_0.l0
      repeat' first
      | (with_reducible exact ih0 _ _ _)
      | (with_reducible exact LeO.refl _)
      | (with_reducible exact LeO.none _)
      | (with_reducible refine LeO.ite ?_ ?_)
      | (with_reducible refine LeO.bind ?_ (fun _ => ?_))
      | exact ih0 _ _ _
      | exact LeO.none _
      | refine LeO.ite ?_ ?_
      | refine LeO.bind ?_ (fun _ => ?_)
theorem changeforgeequal_Strings_0.mono : ∀ a0 a1 k, LeO (changeforgeequal_Strings_0.f k a0 a1) (changeforgeequal_Strings_0.f (k + 1) a0 a1) := by
  intro a0 a1 k
  have ih0 := changeforgeequal_Strings_0.mono_l k
  unfold changeforgeequal_Strings_0.f
  repeat' first
      | (with_reducible exact ih0 _ _ _)
      | (with_reducible exact LeO.refl _)
      | (with_reducible exact LeO.none _)
      | (with_reducible refine LeO.ite ?_ ?_)
      | (with_reducible refine LeO.bind ?_ (fun _ => ?_))
      | exact ih0 _ _ _
      | exact LeO.none _
      | refine LeO.ite ?_ ?_
      | refine LeO.bind ?_ (fun _ => ?_)
set_option maxHeartbeats 8000000 in
set_option maxRecDepth 100000 in
theorem changeforgeequal_Strings_0.calls (k : Nat) (A0 : Option Addr) (c0 : Nat) (l0 : List ByteArray) (A1 : Option Addr) (c1 : Nat) (l1 : List ByteArray) (r : Bool) (w : World) (hr0 : Kd.C Kd.string w A0 l0.length l0) (hc0 : l0.length ≤ c0) (hr1 : Kd.C Kd.string w A1 l1.length l1) (hc1 : l1.length ≤ c1) (h : changeforgeequal_Strings_0.f k l0 l1 = some r) :
    Calls Try.prog 21 #[.slice A0 l0.length c0, .slice A1 l1.length c1] w fun e w' => e = .returned (.bool r) ∧ Drawn0 w w' := by
  have HR0 := Aside0.mk hr0;have HC0 := Aside0.mk hc0;clear hr0 hc0;have HR1 := Aside0.mk hr1;have HC1 := Aside0.mk hc1;clear hr1 hc1;have H : (if (l0.length : Int) = (l1.length : Int) then (changeforgeequal_Strings_0.l0 k l0 l1 0) else (some false)) = some r := h;clear h
  by_cases c3 : (l0.length : Int) = (l1.length : Int)
  · rw [if_pos c3] at H;have c3b0 : ((l0.length : Int) == (l1.length : Int)) = true := beq_iff_eq.mpr c3;have c3b1 : ((l0.length : Int) != (l1.length : Int)) = false := bne_eq_false_iff_eq.mpr c3;have c3b2 : (l0.length == l1.length) = true := (by first|simpa using c3|(simp at c3 ⊢;omega));clear c3;have H' := Aside0.mk H;clear H
    go_enter Try.func21, Try.ntmps21
    go_wp2
    repeat (go_quiet (fail);try go_wp2)
    go_loopg [5] k (fun kq v5 w' => ∃ (x5_1 : Int), v5 = .int .i64 x5_1 ∧ Aside0 (changeforgeequal_Strings_0.l0 kq l0 l1 x5_1 = some r) ∧ Aside0 (kq ≤ k) ∧ Drawn0 w w')
    case atStart => exact ⟨(0), (by first|rfl|(simp only [i64_w, i32_w];done)|(simp only [i64_w, i32_w];rfl)|(simp;done)|(simp [*];done)), H', ⟨Nat.le_refl _⟩, by repeat (first|exact Drawn0.refl _|apply Drawn0.step)⟩
    case round =>
      clear H'
      try clear c1
      try clear c2
      try clear p2
      try clear c3
      try clear c3b0
      try clear c3b1
      try clear c3b2
      obtain ⟨x5_1, rfl, HA, HK1, ⟨m1, rfl⟩⟩ := hrel
      cases gk with
      | zero => exact absurd HA.out (by simp [changeforgeequal_Strings_0.l0])
      | succ k1 =>
        have H := HA.out;clear HA;simp only [changeforgeequal_Strings_0.l0] at H
        by_cases c4 : x5_1 < (l0.length : Int)
        · rw [if_pos c4] at H;have c4b0 : decide (x5_1 < (l0.length : Int)) = true := decide_eq_true c4;clear c4
          by_cases c5 : 0 ≤ x5_1
          · rw [if_pos c5] at H;have c5b0 : decide (0 ≤ x5_1) = true := decide_eq_true c5;clear c5
            by_cases c6 : x5_1 < (l1.length : Int)
            · rw [if_pos c6] at H;have c6b0 : decide (x5_1 < (l1.length : Int)) = true := decide_eq_true c6;clear c6
              by_cases c7 : (rdOf ByteArray.empty l0 x5_1).toList = (rdOf ByteArray.empty l1 x5_1).toList
              · rw [if_pos c7] at H;have c7b0 : ((rdOf ByteArray.empty l0 x5_1).toList == (rdOf ByteArray.empty l1 x5_1).toList) = true := beq_iff_eq.mpr c7;have c7b1 : ((rdOf ByteArray.empty l0 x5_1).toList != (rdOf ByteArray.empty l1 x5_1).toList) = false := bne_eq_false_iff_eq.mpr c7;clear c7;have H' := Aside0.mk H;clear H;have p145 : 0 ≤ (x5_1 : Int) := dA;have q145 : x5_1 < (l0.length : Int) := dA;obtain ⟨ad145, e145, hx145_0⟩ := Kd.at_string HR0.out x5_1 p145 q145
                cases e145
                replace p145 := eq_true p145;replace q145 := eq_true q145;have p146 : 0 ≤ (x5_1 : Int) := dA;have q146 : x5_1 < (l1.length : Int) := dA;obtain ⟨ad146, e146, hx146_0⟩ := Kd.at_string HR1.out x5_1 p146 q146
                cases e146
                replace p146 := eq_true p146;replace q146 := eq_true q146
                go_wp2
                repeat (go_quiet (fail);try go_wp2)
                go_roundg k1
                case measure => have := HK1.out;omega
                case rel => exact ⟨(wrap64 (x5_1 + 1)), (by first|rfl|(simp only [i64_w, i32_w];done)|(simp only [i64_w, i32_w];rfl)|(simp;done)|(simp [*];done)), H', ⟨by have := HK1.out;omega⟩, by repeat (first|exact Drawn0.refl _|apply Drawn0.step)⟩
              · rw [if_neg c7] at H;have c7b0 : ((rdOf ByteArray.empty l0 x5_1).toList == (rdOf ByteArray.empty l1 x5_1).toList) = false := beq_eq_false_iff_ne.mpr c7;have c7b1 : ((rdOf ByteArray.empty l0 x5_1).toList != (rdOf ByteArray.empty l1 x5_1).toList) = true := bne_iff_ne.mpr c7;obtain rfl := Option.some.inj H;have p145 : 0 ≤ (x5_1 : Int) := dA;have q145 : x5_1 < (l0.length : Int) := dA;obtain ⟨ad145, e145, hx145_0⟩ := Kd.at_string HR0.out x5_1 p145 q145
                cases e145
                replace p145 := eq_true p145;replace q145 := eq_true q145;have p146 : 0 ≤ (x5_1 : Int) := dA;have q146 : x5_1 < (l1.length : Int) := dA;obtain ⟨ad146, e146, hx146_0⟩ := Kd.at_string HR1.out x5_1 p146 q146
                cases e146
                replace p146 := eq_true p146;replace q146 := eq_true q146
                go_wp2
                repeat (go_quiet (fail);try go_wp2)
                go_ret
                exact ⟨by first|rfl|(simp;done)|(simp [*];done), by repeat (first|exact Drawn0.refl _|apply Drawn0.step)⟩
            · rw [if_neg c6] at H;exact absurd H (by simp)
          · rw [if_neg c5] at H;exact absurd H (by simp)
        · rw [if_neg c4] at H;have c4b0 : decide (x5_1 < (l0.length : Int)) = false := decide_eq_false c4;clear c4;obtain rfl := Option.some.inj H
          go_wp2
          repeat (go_quiet (fail);try go_wp2)
          go_ret
          exact ⟨by first|rfl|(simp;done)|(simp [*];done), by repeat (first|exact Drawn0.refl _|apply Drawn0.step)⟩
  · rw [if_neg c3] at H;have c3b0 : ((l0.length : Int) == (l1.length : Int)) = false := beq_eq_false_iff_ne.mpr c3;have c3b1 : ((l0.length : Int) != (l1.length : Int)) = true := bne_iff_ne.mpr c3;have c3b2 : (l0.length == l1.length) = false := (by first|simpa using c3|(simp at c3 ⊢;omega));obtain rfl := Option.some.inj H
    go_enter Try.func21, Try.ntmps21
    go_wp2
    repeat (go_quiet (fail);try go_wp2)
    go_ret
    exact ⟨by first|rfl|(simp;done)|(simp [*];done), by repeat (first|exact Drawn0.refl _|apply Drawn0.step)⟩

/-! ### changeforgeequal_Strings: function 21 -/
theorem changeforgeequal_Strings_0.loop (a b : List ByteArray) (hl : a.length = b.length) (hm : a.length ≤ 9223372036854775807) (d : Nat) : ∀ (k i : Nat), i ≤ a.length → a.length - i = d → d < k →
    changeforgeequal_Strings_0.l0 k a b (i : Int) = some (decide (a.drop i = b.drop i)) := by
  induction d with
  | zero =>
    intro k i hi hd hk
    obtain ⟨k, rfl⟩ : ∃ m, k = m + 1 := ⟨k - 1, by omega⟩
    simp only [changeforgeequal_Strings_0.l0]
    rw [if_neg (by omega), List.drop_eq_nil_of_le (by omega), List.drop_eq_nil_of_le (by omega)]
    rfl
  | succ d ih =>
    intro k i hi hd hk
    obtain ⟨k, rfl⟩ : ∃ m, k = m + 1 := ⟨k - 1, by omega⟩
    rw [rdOf_drop ByteArray.empty a i (by omega), rdOf_drop ByteArray.empty b i (by omega)]
    simp only [changeforgeequal_Strings_0.l0]
    rw [if_pos (by omega), if_pos (by omega), if_pos (by omega)]
    by_cases e : rdOf ByteArray.empty a (i : Int) = rdOf ByteArray.empty b (i : Int)
    · rw [if_pos (toList_inj.mpr e), w64 (by omega) (by omega)]
      have := ih k (i + 1) (by omega) (by omega) (by omega)
      rw [Int.natCast_add] at this
      rw [show (((1 : Nat) : Int)) = 1 from rfl] at this
      rw [this, e]
      simp
    · rw [if_neg (fun h => e (toList_inj.mp h))]
      simp [e]
def changeforgeequal_Strings.f (l0 : List ByteArray) (l1 : List ByteArray) : Option (Bool) :=  some (decide (l0 = l1))
theorem changeforgeequal_Strings.calls (A0 : Option Addr) (c0 : Nat) (l0 : List ByteArray) (A1 : Option Addr) (c1 : Nat) (l1 : List ByteArray) (r : Bool) (w : World) (hr0 : Kd.C Kd.string w A0 l0.length l0) (hc0 : l0.length ≤ c0) (hr1 : Kd.C Kd.string w A1 l1.length l1) (hc1 : l1.length ≤ c1) (h : changeforgeequal_Strings.f l0 l1 = some r) :
    Calls Try.prog 21 #[.slice A0 l0.length c0, .slice A1 l1.length c1] w fun e w' => e = .returned (.bool r) ∧ Drawn0 w w' := by
  have hm : l0.length ≤ 9223372036854775807 := hr0.2.1
  have h' : changeforgeequal_Strings_0.f (l0.length + 1) l0 l1 = some r := by
    rw [← h]
    unfold changeforgeequal_Strings_0.f changeforgeequal_Strings.f
    by_cases c : l0.length = l1.length
    · rw [if_pos (by omega)]
      have := changeforgeequal_Strings_0.loop l0 l1 c hm l0.length (l0.length + 1) 0 (by omega) (by omega) (by omega)
      simpa using this
    · rw [if_neg (by omega)]
      have : ¬ l0 = l1 := fun e => c (by rw [e])
      simp [this]
  exact (changeforgeequal_Strings_0.calls (l0.length + 1) A0 c0 l0 A1 c1 l1 r w hr0 hc0 hr1 hc1 (h'))


/-! ### textpatch_Fit: function 40 -/
def textpatch_Fit.f (l0_0 : List (S47)) : Option ((List (S47)) × Int × Int) := (textpatch_Validate.f l0_0).bind fun bt150 => (if (!(bt150.1 == 0) || (!(bt150.2 == 0))) = true then (some (([] : List (S47)), 10, (-1))) else (some (l0_0, 0, 0)))
set_option maxHeartbeats 8000000 in
set_option maxRecDepth 100000 in
theorem textpatch_Fit.calls (P0_0_ : Nat → Prop) (A0_0 : Option Addr) (c0_0 : Nat) (l0_0 : List (S47)) (r1 : List (S47)) (r2 : Int) (r3 : Int) (w : World) (hs0_0 : Kd.V k47 47 w w.heap.size (fun k_ => P0_0_ k_) (.slice A0_0 l0_0.length c0_0) l0_0) (h : textpatch_Fit.f l0_0 = some (r1, r2, r3)) :
    Calls Try.prog 40 #[.agg #[.slice A0_0 l0_0.length c0_0]] w fun e w' => ∃ v0_ : Value, e = .returned (.tuple #[.agg #[v0_], .agg #[.int .i64 r2, .int .i64 r3]]) ∧ Kd.V k47 47 w' w.heap.size (fun k_ => (P0_0_ k_ ∨ w.heap.size ≤ k_)) v0_ r1 ∧ Below w.heap.size w w' := by
  have hu24 := Try.underlying24;have hu27 := Try.underlying27;have HO0_0 := Aside0.mk (show Kd.V k47 47 w w.heap.size (fun k_ => (P0_0_ k_ ∨ w.heap.size ≤ k_)) (.slice A0_0 l0_0.length c0_0) l0_0 from Kd.V_mono hs0_0 (fun k_ hk => .inl hk));have HB := Aside0.mk (Below.refl w.heap.size w);have H : ((textpatch_Validate.f l0_0).bind fun bt150 => (if (!(bt150.1 == 0) || (!(bt150.2 == 0))) = true then (some (([] : List (S47)), 10, (-1))) else (some (l0_0, 0, 0)))) = some (r1, r2, r3) := h;clear h;replace H := Option.bind_eq_some_iff.mp H;obtain ⟨⟨t150, t151⟩, A20, H⟩ := H;replace H : (if (!(t150 == 0) || (!(t151 == 0))) = true then (some (([] : List (S47)), 10, (-1))) else (some (l0_0, 0, 0))) = some (r1, r2, r3) := H;have A2 := Aside0.mk A20;clear A20
  by_cases c3 : (!(t150 == 0) || (!(t151 == 0))) = true
  · rw [if_pos c3] at H;have c3b0 : (!(t150 == 0) || (!(t151 == 0))) = true := c3;clear c3;simp only [Option.some.injEq, Prod.mk.injEq] at H;obtain ⟨rfl, rfl, rfl⟩ := H
    go_enter Try.func40, Try.ntmps40
    go_wp2_with (first|((with_reducible refine gate_dst (N := 1) rfl ?_);refine bE 1 #[.slice A0_0 l0_0.length c0_0] 24 ?_;intro gb147 hg w4 hbox hb;have BK147 := Aside0.mk (hbox);have GW147 := gBe HB hg;have GE147 := gBe HB hg;replace HO0_0 := vE HO0_0 gb147 hg hb;replace HB := sBe HB hb;clear hb hbox hg)|((with_reducible refine gate_dst (N := 2) rfl ?_);refine bE 2 #[.slice none 0 0] 24 ?_;intro gb148 hg w5 hbox hb;have BK148 := Aside0.mk (hbox);have GW148 := gBe HB hg;have GE148 := gBe HB hg;have NB147_148 := nL BK147 hg;have NB148_147 := nG BK147 hg;replace HO0_0 := vE HO0_0 gb148 hg hb;replace BK147 := lJ BK147 hb;replace HB := sBe HB hb;clear hb hbox hg)|((with_reducible refine gate_dst (N := 3) rfl ?_);refine bE 3 #[.int .i64 0, .int .i64 0] 27 ?_;intro gb149 hg w6 hbox hb;have BK149 := Aside0.mk (hbox);have GW149 := gBe HB hg;have GE149 := gBe HB hg;have NB147_149 := nL BK147 hg;have NB149_147 := nG BK147 hg;have NB148_149 := nL BK148 hg;have NB149_148 := nG BK148 hg;replace HO0_0 := vE HO0_0 gb149 hg hb;replace BK147 := lJ BK147 hb;replace BK148 := lJ BK148 hb;replace HB := sBe HB hb;clear hb hbox hg;have hnb7 := eq_false NB147_148.out;have hnc7 := eq_false NB148_147.out;have hnb8 := eq_false NB147_149.out;have hnc8 := eq_false NB149_147.out;have hcz9_0 := hC BK147 0 (.slice A0_0 l0_0.length c0_0);have hfz9_0 := blk_frozen BK147.out 0)|((with_reducible refine gate_callee (f := 19) rfl ?_);refine goesL_ (some 5) rfl rfl Try.func19 (by kernel_rfl) rfl #[.agg #[.slice A0_0 l0_0.length c0_0]] rfl mA ?_;(with_reducible refine (textpatch_Validate.calls _ _ l0_0 t150 t151 _ ?side1 ?side2 A2.out).mono ?_);(case side1 => repeat (first|exact (Kd.V_reads' HO0_0.out).2.2|(with_reducible refine Kd.C_alloc ?_ _)|(with_reducible refine Kd.C_drewN ?_ _)|(with_reducible refine Kd.C_drew ?_)));(case side2 => exact (Kd.V_reads' HO0_0.out).2.1);rintro e w10 ⟨rfl, hb⟩;refine ⟨_, rfl, ?_⟩;replace HO0_0 := Aside0.mk (Kd.V_below (vK HO0_0) hb);replace BK147 := lJ BK147 hb;replace BK148 := lJ BK148 hb;replace BK149 := lJ BK149 hb;replace HB := sBe HB hb;(try clear hb);have hnb11 := eq_false NB148_149.out;have hnc11 := eq_false NB149_148.out;have hcz12_0 := hC BK148 0 (.slice none 0 0);have hfz12_0 := blk_frozen BK148.out 0;have hcz13_0 := hC BK149 0 (.int .i64 0);have hcz13_1 := hC BK149 1 (.int .i64 0);have hfz13_0 := blk_frozen BK149.out 0;have hfz13_1 := blk_frozen BK149.out 1))
    refine bodyPost_ret (results_cc rfl _ _ gb148 gb149 24 27 #[.slice none 0 0] #[.int .i64 10, .int .i64 (-1)] (0, 0) (0, 0) _ _ rfl kK Try.underlying24 rfl (by kernel_rfl) rfl kK Try.underlying27 rfl (by kernel_rfl)) rfl ?_;exact ⟨_, rW, Kd.V_mono (Kd.S_V (Kd.S_nil _ _ _ 0 _)) (fun k_ hk => by first|exact ⟨(.inr (hk.1)), hk.2⟩|exact (.inr (hk))), eB⟩
  · rw [if_neg c3] at H;have c3b0 : (!(t150 == 0) || (!(t151 == 0))) = false := (by simpa using c3);clear c3;simp only [Option.some.injEq, Prod.mk.injEq] at H;obtain ⟨rfl, rfl, rfl⟩ := H
    go_enter Try.func40, Try.ntmps40
    go_wp2_with (first|((with_reducible refine gate_dst (N := 1) rfl ?_);refine bE 1 #[.slice A0_0 l0_0.length c0_0] 24 ?_;intro gb147 hg w14 hbox hb;have BK147 := Aside0.mk (hbox);have GW147 := gBe HB hg;have GE147 := gBe HB hg;replace HO0_0 := vE HO0_0 gb147 hg hb;replace HB := sBe HB hb;clear hb hbox hg)|((with_reducible refine gate_dst (N := 2) rfl ?_);refine bE 2 #[.slice none 0 0] 24 ?_;intro gb148 hg w15 hbox hb;have BK148 := Aside0.mk (hbox);have GW148 := gBe HB hg;have GE148 := gBe HB hg;have NB147_148 := nL BK147 hg;have NB148_147 := nG BK147 hg;replace HO0_0 := vE HO0_0 gb148 hg hb;replace BK147 := lJ BK147 hb;replace HB := sBe HB hb;clear hb hbox hg)|((with_reducible refine gate_dst (N := 3) rfl ?_);refine bE 3 #[.int .i64 0, .int .i64 0] 27 ?_;intro gb149 hg w16 hbox hb;have BK149 := Aside0.mk (hbox);have GW149 := gBe HB hg;have GE149 := gBe HB hg;have NB147_149 := nL BK147 hg;have NB149_147 := nG BK147 hg;have NB148_149 := nL BK148 hg;have NB149_148 := nG BK148 hg;replace HO0_0 := vE HO0_0 gb149 hg hb;replace BK147 := lJ BK147 hb;replace BK148 := lJ BK148 hb;replace HB := sBe HB hb;clear hb hbox hg;have hnb17 := eq_false NB147_148.out;have hnc17 := eq_false NB148_147.out;have hnb18 := eq_false NB147_149.out;have hnc18 := eq_false NB149_147.out;have hcz19_0 := hC BK147 0 (.slice A0_0 l0_0.length c0_0);have hfz19_0 := blk_frozen BK147.out 0)|((with_reducible refine gate_callee (f := 19) rfl ?_);refine goesL_ (some 5) rfl rfl Try.func19 (by kernel_rfl) rfl #[.agg #[.slice A0_0 l0_0.length c0_0]] rfl mA ?_;(with_reducible refine (textpatch_Validate.calls _ _ l0_0 t150 t151 _ ?side1 ?side2 A2.out).mono ?_);(case side1 => repeat (first|exact (Kd.V_reads' HO0_0.out).2.2|(with_reducible refine Kd.C_alloc ?_ _)|(with_reducible refine Kd.C_drewN ?_ _)|(with_reducible refine Kd.C_drew ?_)));(case side2 => exact (Kd.V_reads' HO0_0.out).2.1);rintro e w20 ⟨rfl, hb⟩;refine ⟨_, rfl, ?_⟩;replace HO0_0 := Aside0.mk (Kd.V_below (vK HO0_0) hb);replace BK147 := lJ BK147 hb;replace BK148 := lJ BK148 hb;replace BK149 := lJ BK149 hb;replace HB := sBe HB hb;(try clear hb);have hcz21_0 := hC BK147 0 (.slice A0_0 l0_0.length c0_0);have hfz21_0 := blk_frozen BK147.out 0;have hnb22 := eq_false NB148_149.out;have hnc22 := eq_false NB149_148.out;have hcz23_0 := hC BK148 0 (.slice none 0 0);have hfz23_0 := blk_frozen BK148.out 0;have hcz24_0 := hC BK149 0 (.int .i64 0);have hcz24_1 := hC BK149 1 (.int .i64 0);have hfz24_0 := blk_frozen BK149.out 0;have hfz24_1 := blk_frozen BK149.out 1))
    refine bodyPost_ret (results_cc rfl _ _ gb148 gb149 24 27 #[.slice A0_0 l0_0.length c0_0] #[.int .i64 0, .int .i64 0] (0, 0) (0, 0) _ _ rfl kK Try.underlying24 rfl (by kernel_rfl) rfl kK Try.underlying27 rfl (by kernel_rfl)) rfl ?_;exact ⟨_, rW, by (with_reducible repeat (first|apply Kd.V_alloc|apply Kd.V_drewN|apply Kd.V_drew));exact Kd.V_mono (Kd.V_far (p := ⟨gb149, 1, none⟩) (Kd.V_far (p := ⟨gb149, 0, none⟩) (Kd.V_far (p := ⟨gb148, 0, none⟩) (Kd.V_mono (Kd.V_mono HO0_0.out (fun k_ hk => (⟨hk, hk.1.2⟩ : _ ∧ k_ ≠ gb148))) (fun k_ hk => (⟨hk, hk.1.2⟩ : _ ∧ k_ ≠ gb149))) (fun _ hk => hk.1.2) (.slice A0_0 l0_0.length c0_0)) (fun _ hk => hk.2) (.int .i64 0)) (fun _ hk => hk.2) (.int .i64 0)) (fun _ hk => hk.1.1.1.1.1), eB⟩

/-! ### commute_check: function 50 -/
def commute_check.f (l0_0 : List (S47)) (l1_0 : List (S47)) : Option (Int × Int) := (textpatch_Validate.f l0_0).bind fun bt155 => (if (!(bt155.1 == 0) || (!(bt155.2 == 0))) = true then (some (bt155.1, bt155.2)) else ((textpatch_Validate.f l1_0).bind fun bt158 => (if (!(bt158.1 == 0) || (!(bt158.2 == 0))) = true then (some (bt158.1, (-2))) else (some (0, 0)))))
set_option maxHeartbeats 8000000 in
set_option maxRecDepth 100000 in
theorem commute_check.calls (A0_0 : Option Addr) (c0_0 : Nat) (l0_0 : List (S47)) (A1_0 : Option Addr) (c1_0 : Nat) (l1_0 : List (S47)) (r1 : Int) (r2 : Int) (w : World) (hr0_0 : Kd.C k47 w A0_0 l0_0.length l0_0) (hc0_0 : l0_0.length ≤ c0_0) (hr1_0 : Kd.C k47 w A1_0 l1_0.length l1_0) (hc1_0 : l1_0.length ≤ c1_0) (h : commute_check.f l0_0 l1_0 = some (r1, r2)) :
    Calls Try.prog 50 #[.agg #[.slice A0_0 l0_0.length c0_0], .agg #[.slice A1_0 l1_0.length c1_0]] w fun e w' => e = .returned (.agg #[.int .i64 r1, .int .i64 r2]) ∧ Below w.heap.size w w' := by
  have hu24 := Try.underlying24;have hu27 := Try.underlying27;have HR0_0 := Aside0.mk hr0_0;have HC0_0 := Aside0.mk hc0_0;clear hr0_0 hc0_0;have HR1_0 := Aside0.mk hr1_0;have HC1_0 := Aside0.mk hc1_0;clear hr1_0 hc1_0;have HB := Aside0.mk (Below.refl w.heap.size w);have H : ((textpatch_Validate.f l0_0).bind fun bt155 => (if (!(bt155.1 == 0) || (!(bt155.2 == 0))) = true then (some (bt155.1, bt155.2)) else ((textpatch_Validate.f l1_0).bind fun bt158 => (if (!(bt158.1 == 0) || (!(bt158.2 == 0))) = true then (some (bt158.1, (-2))) else (some (0, 0)))))) = some (r1, r2) := h;clear h;replace H := Option.bind_eq_some_iff.mp H;obtain ⟨⟨t155, t156⟩, A30, H⟩ := H;replace H : (if (!(t155 == 0) || (!(t156 == 0))) = true then (some (t155, t156)) else ((textpatch_Validate.f l1_0).bind fun bt158 => (if (!(bt158.1 == 0) || (!(bt158.2 == 0))) = true then (some (bt158.1, (-2))) else (some (0, 0))))) = some (r1, r2) := H;have A3 := Aside0.mk A30;clear A30
  by_cases c4 : (!(t155 == 0) || (!(t156 == 0))) = true
  · rw [if_pos c4] at H;have c4b0 : (!(t155 == 0) || (!(t156 == 0))) = true := c4;clear c4;simp only [Option.some.injEq, Prod.mk.injEq] at H;obtain ⟨rfl, rfl⟩ := H
    go_enter Try.func50, Try.ntmps50
    go_wp2_with (first|((with_reducible refine gate_dst (N := 2) rfl ?_);refine bE 2 #[.slice A0_0 l0_0.length c0_0] 24 ?_;intro gb152 hg w5 hbox hb;have BK152 := Aside0.mk (hbox);have GW152 := gBe HB hg;have GE152 := gBe HB hg;replace HB := sBe HB hb;clear hb hbox hg)|((with_reducible refine gate_dst (N := 3) rfl ?_);refine bE 3 #[.slice A1_0 l1_0.length c1_0] 24 ?_;intro gb153 hg w6 hbox hb;have BK153 := Aside0.mk (hbox);have GW153 := gBe HB hg;have GE153 := gBe HB hg;have NB152_153 := nL BK152 hg;have NB153_152 := nG BK152 hg;replace BK152 := lJ BK152 hb;replace HB := sBe HB hb;clear hb hbox hg)|((with_reducible refine gate_dst (N := 4) rfl ?_);refine bE 4 #[.int .i64 0, .int .i64 0] 27 ?_;intro gb154 hg w7 hbox hb;have BK154 := Aside0.mk (hbox);have GW154 := gBe HB hg;have GE154 := gBe HB hg;have NB152_154 := nL BK152 hg;have NB154_152 := nG BK152 hg;have NB153_154 := nL BK153 hg;have NB154_153 := nG BK153 hg;replace BK152 := lJ BK152 hb;replace BK153 := lJ BK153 hb;replace HB := sBe HB hb;clear hb hbox hg;have hnb8 := eq_false NB152_153.out;have hnc8 := eq_false NB153_152.out;have hnb9 := eq_false NB152_154.out;have hnc9 := eq_false NB154_152.out;have hcz10_0 := hC BK152 0 (.slice A0_0 l0_0.length c0_0);have hfz10_0 := blk_frozen BK152.out 0)|((with_reducible refine gate_callee (f := 19) rfl ?_);refine goesL_ (some 8) rfl rfl Try.func19 (by kernel_rfl) rfl #[.agg #[.slice A0_0 l0_0.length c0_0]] rfl mA ?_;(with_reducible refine (textpatch_Validate.calls _ _ l0_0 t155 t156 _ ?side1 ?side2 A3.out).mono ?_);(case side1 => exact cBe HR0_0);(case side2 => exact HC0_0.out);rintro e w11 ⟨rfl, hb⟩;refine ⟨_, rfl, ?_⟩;replace BK152 := lJ BK152 hb;replace BK153 := lJ BK153 hb;replace BK154 := lJ BK154 hb;replace HB := sBe HB hb;(try clear hb))|((with_reducible refine gate_dst (N := 5) rfl ?_);refine bE 5 #[.int .i64 0, .int .i64 0] 27 ?_;intro gb157 hg w12 hbox hb;have BK157 := Aside0.mk (hbox);have GW157 := gBe HB hg;have GE157 := gBe HB hg;have NB152_157 := nL BK152 hg;have NB157_152 := nG BK152 hg;have NB153_157 := nL BK153 hg;have NB157_153 := nG BK153 hg;have NB154_157 := nL BK154 hg;have NB157_154 := nG BK154 hg;replace BK152 := lJ BK152 hb;replace BK153 := lJ BK153 hb;replace BK154 := lJ BK154 hb;replace HB := sBe HB hb;clear hb hbox hg;have hnb13 := eq_false NB157_152.out;have hnc13 := eq_false NB152_157.out;have hnb14 := eq_false NB157_153.out;have hnc14 := eq_false NB153_157.out;have hnb15 := eq_false NB157_154.out;have hnc15 := eq_false NB154_157.out;have hcz16_0 := hC BK157 0 (.int .i64 0);have hcz16_1 := hC BK157 1 (.int .i64 0);have hfz16_0 := blk_frozen BK157.out 0;have hfz16_1 := blk_frozen BK157.out 1;have hnb17 := eq_false NB154_153.out;have hnc17 := eq_false NB153_154.out;have hcz18_0 := hC BK154 0 (.int .i64 0);have hcz18_1 := hC BK154 1 (.int .i64 0);have hfz18_0 := blk_frozen BK154.out 0;have hfz18_1 := blk_frozen BK154.out 1))
    refine bodyPost_ret (results_cell_row rfl _ _ gb154 27 #[.int .i64 t155, .int .i64 t156] (0, 0) _ rfl kK Try.underlying27 rfl (by kernel_rfl)) rfl ?_;exact ⟨rW, eB⟩
  · rw [if_neg c4] at H;have c4b0 : (!(t155 == 0) || (!(t156 == 0))) = false := (by simpa using c4);clear c4;replace H := Option.bind_eq_some_iff.mp H;obtain ⟨⟨t158, t159⟩, A190, H⟩ := H;replace H : (if (!(t158 == 0) || (!(t159 == 0))) = true then (some (t158, (-2))) else (some (0, 0))) = some (r1, r2) := H;have A19 := Aside0.mk A190;clear A190
    by_cases c20 : (!(t158 == 0) || (!(t159 == 0))) = true
    · rw [if_pos c20] at H;have c20b0 : (!(t158 == 0) || (!(t159 == 0))) = true := c20;clear c20;simp only [Option.some.injEq, Prod.mk.injEq] at H;obtain ⟨rfl, rfl⟩ := H
      go_enter Try.func50, Try.ntmps50
      go_wp2_with (first|((with_reducible refine gate_dst (N := 2) rfl ?_);refine bE 2 #[.slice A0_0 l0_0.length c0_0] 24 ?_;intro gb152 hg w21 hbox hb;have BK152 := Aside0.mk (hbox);have GW152 := gBe HB hg;have GE152 := gBe HB hg;replace HB := sBe HB hb;clear hb hbox hg)|((with_reducible refine gate_dst (N := 3) rfl ?_);refine bE 3 #[.slice A1_0 l1_0.length c1_0] 24 ?_;intro gb153 hg w22 hbox hb;have BK153 := Aside0.mk (hbox);have GW153 := gBe HB hg;have GE153 := gBe HB hg;have NB152_153 := nL BK152 hg;have NB153_152 := nG BK152 hg;replace BK152 := lJ BK152 hb;replace HB := sBe HB hb;clear hb hbox hg)|((with_reducible refine gate_dst (N := 4) rfl ?_);refine bE 4 #[.int .i64 0, .int .i64 0] 27 ?_;intro gb154 hg w23 hbox hb;have BK154 := Aside0.mk (hbox);have GW154 := gBe HB hg;have GE154 := gBe HB hg;have NB152_154 := nL BK152 hg;have NB154_152 := nG BK152 hg;have NB153_154 := nL BK153 hg;have NB154_153 := nG BK153 hg;replace BK152 := lJ BK152 hb;replace BK153 := lJ BK153 hb;replace HB := sBe HB hb;clear hb hbox hg;have hnb24 := eq_false NB152_153.out;have hnc24 := eq_false NB153_152.out;have hnb25 := eq_false NB152_154.out;have hnc25 := eq_false NB154_152.out;have hcz26_0 := hC BK152 0 (.slice A0_0 l0_0.length c0_0);have hfz26_0 := blk_frozen BK152.out 0)|((with_reducible refine gate_callee (f := 19) rfl ?_);refine goesL_ (some 8) rfl rfl Try.func19 (by kernel_rfl) rfl #[.agg #[.slice A0_0 l0_0.length c0_0]] rfl mA ?_;(with_reducible refine (textpatch_Validate.calls _ _ l0_0 t155 t156 _ ?side1 ?side2 A3.out).mono ?_);(case side1 => exact cBe HR0_0);(case side2 => exact HC0_0.out);rintro e w27 ⟨rfl, hb⟩;refine ⟨_, rfl, ?_⟩;replace BK152 := lJ BK152 hb;replace BK153 := lJ BK153 hb;replace BK154 := lJ BK154 hb;replace HB := sBe HB hb;(try clear hb))|((with_reducible refine gate_dst (N := 5) rfl ?_);refine bE 5 #[.int .i64 0, .int .i64 0] 27 ?_;intro gb157 hg w28 hbox hb;have BK157 := Aside0.mk (hbox);have GW157 := gBe HB hg;have GE157 := gBe HB hg;have NB152_157 := nL BK152 hg;have NB157_152 := nG BK152 hg;have NB153_157 := nL BK153 hg;have NB157_153 := nG BK153 hg;have NB154_157 := nL BK154 hg;have NB157_154 := nG BK154 hg;replace BK152 := lJ BK152 hb;replace BK153 := lJ BK153 hb;replace BK154 := lJ BK154 hb;replace HB := sBe HB hb;clear hb hbox hg;have hnb29 := eq_false NB157_152.out;have hnc29 := eq_false NB152_157.out;have hnb30 := eq_false NB157_153.out;have hnc30 := eq_false NB153_157.out;have hnb31 := eq_false NB157_154.out;have hnc31 := eq_false NB154_157.out;have hcz32_0 := hC BK157 0 (.int .i64 0);have hcz32_1 := hC BK157 1 (.int .i64 0);have hfz32_0 := blk_frozen BK157.out 0;have hfz32_1 := blk_frozen BK157.out 1;have hnb33 := eq_false NB153_154.out;have hnc33 := eq_false NB154_153.out;have hcz34_0 := hC BK153 0 (.slice A1_0 l1_0.length c1_0);have hfz34_0 := blk_frozen BK153.out 0)|((with_reducible refine gate_callee (f := 19) rfl ?_);refine goesL_ (some 14) rfl rfl Try.func19 (by kernel_rfl) rfl #[.agg #[.slice A1_0 l1_0.length c1_0]] rfl mA ?_;(with_reducible refine (textpatch_Validate.calls _ _ l1_0 t158 t159 _ ?side1 ?side2 A19.out).mono ?_);(case side1 => exact Kd.C_below HR1_0.out eB);(case side2 => exact HC1_0.out);rintro e w35 ⟨rfl, hb⟩;refine ⟨_, rfl, ?_⟩;replace BK152 := lJ BK152 hb;replace BK153 := lJ BK153 hb;replace BK154 := lJ BK154 hb;replace BK157 := lK gb157 27 #[.int .i64 t155, .int .i64 t156] hb;replace HB := sBe HB hb;(try clear hb))|((with_reducible refine gate_dst (N := 6) rfl ?_);refine bE 6 #[.int .i64 0, .int .i64 0] 27 ?_;intro gb160 hg w36 hbox hb;have BK160 := Aside0.mk (hbox);have GW160 := gBe HB hg;have GE160 := gBe HB hg;have NB152_160 := nL BK152 hg;have NB160_152 := nG BK152 hg;have NB153_160 := nL BK153 hg;have NB160_153 := nG BK153 hg;have NB154_160 := nL BK154 hg;have NB160_154 := nG BK154 hg;have NB157_160 := nL BK157 hg;have NB160_157 := nG BK157 hg;replace BK152 := lJ BK152 hb;replace BK153 := lJ BK153 hb;replace BK154 := lJ BK154 hb;replace BK157 := lJ BK157 hb;replace HB := sBe HB hb;clear hb hbox hg;have hnb37 := eq_false NB160_152.out;have hnc37 := eq_false NB152_160.out;have hnb38 := eq_false NB160_153.out;have hnc38 := eq_false NB153_160.out;have hnb39 := eq_false NB160_154.out;have hnc39 := eq_false NB154_160.out;have hnb40 := eq_false NB160_157.out;have hnc40 := eq_false NB157_160.out;have hcz41_0 := hC BK160 0 (.int .i64 0);have hcz41_1 := hC BK160 1 (.int .i64 0);have hfz41_0 := blk_frozen BK160.out 0;have hfz41_1 := blk_frozen BK160.out 1;have hcz42_0 := hC BK154 0 (.int .i64 0);have hcz42_1 := hC BK154 1 (.int .i64 0);have hfz42_0 := blk_frozen BK154.out 0;have hfz42_1 := blk_frozen BK154.out 1))
      refine bodyPost_ret (results_cell_row rfl _ _ gb154 27 #[.int .i64 t158, .int .i64 (-2)] (0, 0) _ rfl kK Try.underlying27 rfl (by kernel_rfl)) rfl ?_;exact ⟨rW, eB⟩
    · rw [if_neg c20] at H;have c20b0 : (!(t158 == 0) || (!(t159 == 0))) = false := (by simpa using c20);clear c20;simp only [Option.some.injEq, Prod.mk.injEq] at H;obtain ⟨rfl, rfl⟩ := H
      go_enter Try.func50, Try.ntmps50
      go_wp2_with (first|((with_reducible refine gate_dst (N := 2) rfl ?_);refine bE 2 #[.slice A0_0 l0_0.length c0_0] 24 ?_;intro gb152 hg w43 hbox hb;have BK152 := Aside0.mk (hbox);have GW152 := gBe HB hg;have GE152 := gBe HB hg;replace HB := sBe HB hb;clear hb hbox hg)|((with_reducible refine gate_dst (N := 3) rfl ?_);refine bE 3 #[.slice A1_0 l1_0.length c1_0] 24 ?_;intro gb153 hg w44 hbox hb;have BK153 := Aside0.mk (hbox);have GW153 := gBe HB hg;have GE153 := gBe HB hg;have NB152_153 := nL BK152 hg;have NB153_152 := nG BK152 hg;replace BK152 := lJ BK152 hb;replace HB := sBe HB hb;clear hb hbox hg)|((with_reducible refine gate_dst (N := 4) rfl ?_);refine bE 4 #[.int .i64 0, .int .i64 0] 27 ?_;intro gb154 hg w45 hbox hb;have BK154 := Aside0.mk (hbox);have GW154 := gBe HB hg;have GE154 := gBe HB hg;have NB152_154 := nL BK152 hg;have NB154_152 := nG BK152 hg;have NB153_154 := nL BK153 hg;have NB154_153 := nG BK153 hg;replace BK152 := lJ BK152 hb;replace BK153 := lJ BK153 hb;replace HB := sBe HB hb;clear hb hbox hg;have hnb46 := eq_false NB152_153.out;have hnc46 := eq_false NB153_152.out;have hnb47 := eq_false NB152_154.out;have hnc47 := eq_false NB154_152.out;have hcz48_0 := hC BK152 0 (.slice A0_0 l0_0.length c0_0);have hfz48_0 := blk_frozen BK152.out 0)|((with_reducible refine gate_callee (f := 19) rfl ?_);refine goesL_ (some 8) rfl rfl Try.func19 (by kernel_rfl) rfl #[.agg #[.slice A0_0 l0_0.length c0_0]] rfl mA ?_;(with_reducible refine (textpatch_Validate.calls _ _ l0_0 t155 t156 _ ?side1 ?side2 A3.out).mono ?_);(case side1 => exact cBe HR0_0);(case side2 => exact HC0_0.out);rintro e w49 ⟨rfl, hb⟩;refine ⟨_, rfl, ?_⟩;replace BK152 := lJ BK152 hb;replace BK153 := lJ BK153 hb;replace BK154 := lJ BK154 hb;replace HB := sBe HB hb;(try clear hb))|((with_reducible refine gate_dst (N := 5) rfl ?_);refine bE 5 #[.int .i64 0, .int .i64 0] 27 ?_;intro gb157 hg w50 hbox hb;have BK157 := Aside0.mk (hbox);have GW157 := gBe HB hg;have GE157 := gBe HB hg;have NB152_157 := nL BK152 hg;have NB157_152 := nG BK152 hg;have NB153_157 := nL BK153 hg;have NB157_153 := nG BK153 hg;have NB154_157 := nL BK154 hg;have NB157_154 := nG BK154 hg;replace BK152 := lJ BK152 hb;replace BK153 := lJ BK153 hb;replace BK154 := lJ BK154 hb;replace HB := sBe HB hb;clear hb hbox hg;have hnb51 := eq_false NB157_152.out;have hnc51 := eq_false NB152_157.out;have hnb52 := eq_false NB157_153.out;have hnc52 := eq_false NB153_157.out;have hnb53 := eq_false NB157_154.out;have hnc53 := eq_false NB154_157.out;have hcz54_0 := hC BK157 0 (.int .i64 0);have hcz54_1 := hC BK157 1 (.int .i64 0);have hfz54_0 := blk_frozen BK157.out 0;have hfz54_1 := blk_frozen BK157.out 1;have hnb55 := eq_false NB153_154.out;have hnc55 := eq_false NB154_153.out;have hcz56_0 := hC BK153 0 (.slice A1_0 l1_0.length c1_0);have hfz56_0 := blk_frozen BK153.out 0)|((with_reducible refine gate_callee (f := 19) rfl ?_);refine goesL_ (some 14) rfl rfl Try.func19 (by kernel_rfl) rfl #[.agg #[.slice A1_0 l1_0.length c1_0]] rfl mA ?_;(with_reducible refine (textpatch_Validate.calls _ _ l1_0 t158 t159 _ ?side1 ?side2 A19.out).mono ?_);(case side1 => exact Kd.C_below HR1_0.out eB);(case side2 => exact HC1_0.out);rintro e w57 ⟨rfl, hb⟩;refine ⟨_, rfl, ?_⟩;replace BK152 := lJ BK152 hb;replace BK153 := lJ BK153 hb;replace BK154 := lJ BK154 hb;replace BK157 := lK gb157 27 #[.int .i64 t155, .int .i64 t156] hb;replace HB := sBe HB hb;(try clear hb))|((with_reducible refine gate_dst (N := 6) rfl ?_);refine bE 6 #[.int .i64 0, .int .i64 0] 27 ?_;intro gb160 hg w58 hbox hb;have BK160 := Aside0.mk (hbox);have GW160 := gBe HB hg;have GE160 := gBe HB hg;have NB152_160 := nL BK152 hg;have NB160_152 := nG BK152 hg;have NB153_160 := nL BK153 hg;have NB160_153 := nG BK153 hg;have NB154_160 := nL BK154 hg;have NB160_154 := nG BK154 hg;have NB157_160 := nL BK157 hg;have NB160_157 := nG BK157 hg;replace BK152 := lJ BK152 hb;replace BK153 := lJ BK153 hb;replace BK154 := lJ BK154 hb;replace BK157 := lJ BK157 hb;replace HB := sBe HB hb;clear hb hbox hg;have hnb59 := eq_false NB160_152.out;have hnc59 := eq_false NB152_160.out;have hnb60 := eq_false NB160_153.out;have hnc60 := eq_false NB153_160.out;have hnb61 := eq_false NB160_154.out;have hnc61 := eq_false NB154_160.out;have hnb62 := eq_false NB160_157.out;have hnc62 := eq_false NB157_160.out;have hcz63_0 := hC BK160 0 (.int .i64 0);have hcz63_1 := hC BK160 1 (.int .i64 0);have hfz63_0 := blk_frozen BK160.out 0;have hfz63_1 := blk_frozen BK160.out 1;have hcz64_0 := hC BK154 0 (.int .i64 0);have hcz64_1 := hC BK154 1 (.int .i64 0);have hfz64_0 := blk_frozen BK154.out 0;have hfz64_1 := blk_frozen BK154.out 1))
      refine bodyPost_ret (results_cell_row rfl _ _ gb154 27 #[.int .i64 0, .int .i64 0] (0, 0) _ rfl kK Try.underlying27 rfl (by kernel_rfl)) rfl ?_;exact ⟨rW, eB⟩

/-! ### commute_apart: function 64 -/
def commute_apart.f (a0_0 : Int) (a0_1 : Int) (a1_0 : Int) (a1_1 : Int) : Option (Bool) := if a0_1 < a1_0 then (some true) else (some (decide (a1_1 < a0_0)))
set_option maxHeartbeats 8000000 in
set_option maxRecDepth 100000 in
theorem commute_apart.calls (a0_0 : Int) (a0_1 : Int) (a1_0 : Int) (a1_1 : Int) (r : Bool) (w : World) (h : commute_apart.f a0_0 a0_1 a1_0 a1_1 = some r) :
    Calls Try.prog 64 #[.agg #[.int .i64 a0_0, .int .i64 a0_1], .agg #[.int .i64 a1_0, .int .i64 a1_1]] w fun e w' => e = .returned (.bool r) ∧ Below w.heap.size w w' := by
  have hu78 := Try.underlying78;have HB := Aside0.mk (Below.refl w.heap.size w);have H : (if a0_1 < a1_0 then (some true) else (some (decide (a1_1 < a0_0)))) = some r := h;clear h
  by_cases c3 : a0_1 < a1_0
  · rw [if_pos c3] at H;have c3b0 : decide (a0_1 < a1_0) = true := decide_eq_true c3;clear c3;obtain rfl := Option.some.inj H
    go_enter Try.func64, Try.ntmps64
    go_wp2_with (first|((with_reducible refine gate_dst (N := 2) rfl ?_);refine bE 2 #[.int .i64 a0_0, .int .i64 a0_1] 78 ?_;intro gb161 hg w4 hbox hb;have BK161 := Aside0.mk (hbox);have GW161 := gBe HB hg;have GE161 := gBe HB hg;replace HB := sBe HB hb;clear hb hbox hg)|((with_reducible refine gate_dst (N := 3) rfl ?_);refine bE 3 #[.int .i64 a1_0, .int .i64 a1_1] 78 ?_;intro gb162 hg w5 hbox hb;have BK162 := Aside0.mk (hbox);have GW162 := gBe HB hg;have GE162 := gBe HB hg;have NB161_162 := nL BK161 hg;have NB162_161 := nG BK161 hg;replace BK161 := lJ BK161 hb;replace HB := sBe HB hb;clear hb hbox hg;have hnb6 := eq_false NB161_162.out;have hnc6 := eq_false NB162_161.out;have hcz7_0 := hC BK161 0 (.int .i64 a0_0);have hcz7_1 := hC BK161 1 (.int .i64 a0_1);have hfz7_0 := blk_frozen BK161.out 0;have hfz7_1 := blk_frozen BK161.out 1;have hcz8_0 := hC BK162 0 (.int .i64 a1_0);have hcz8_1 := hC BK162 1 (.int .i64 a1_1);have hfz8_0 := blk_frozen BK162.out 0;have hfz8_1 := blk_frozen BK162.out 1))
    go_ret
    exact ⟨rW, eB⟩
  · rw [if_neg c3] at H;have c3b0 : decide (a0_1 < a1_0) = false := decide_eq_false c3;clear c3;obtain rfl := Option.some.inj H
    go_enter Try.func64, Try.ntmps64
    go_wp2_with (first|((with_reducible refine gate_dst (N := 2) rfl ?_);refine bE 2 #[.int .i64 a0_0, .int .i64 a0_1] 78 ?_;intro gb161 hg w9 hbox hb;have BK161 := Aside0.mk (hbox);have GW161 := gBe HB hg;have GE161 := gBe HB hg;replace HB := sBe HB hb;clear hb hbox hg)|((with_reducible refine gate_dst (N := 3) rfl ?_);refine bE 3 #[.int .i64 a1_0, .int .i64 a1_1] 78 ?_;intro gb162 hg w10 hbox hb;have BK162 := Aside0.mk (hbox);have GW162 := gBe HB hg;have GE162 := gBe HB hg;have NB161_162 := nL BK161 hg;have NB162_161 := nG BK161 hg;replace BK161 := lJ BK161 hb;replace HB := sBe HB hb;clear hb hbox hg;have hnb11 := eq_false NB161_162.out;have hnc11 := eq_false NB162_161.out;have hcz12_0 := hC BK161 0 (.int .i64 a0_0);have hcz12_1 := hC BK161 1 (.int .i64 a0_1);have hfz12_0 := blk_frozen BK161.out 0;have hfz12_1 := blk_frozen BK161.out 1;have hcz13_0 := hC BK162 0 (.int .i64 a1_0);have hcz13_1 := hC BK162 1 (.int .i64 a1_1);have hfz13_0 := blk_frozen BK162.out 0;have hfz13_1 := blk_frozen BK162.out 1))
    go_ret
    exact ⟨rW, eB⟩

/-! ### commute_independent: function 51 -/
mutual
def commute_independent.l0 : Nat → List (S78) → List (S78) → Int → Int → Option (Bool)
  | 0, _, _, _, _ => none
  | k + 1, x1, x9, x10, x11 => if x11 < x10 then (if 0 ≤ x11 then (if x11 < (x9.length : Int) then (commute_independent.l1 k x1 x9 x10 x11 x1 (x1.length : Int) 0 ((rd_T78 x9 x11).f0) ((rd_T78 x9 x11).f1)) else (none)) else (none)) else (some true)
def commute_independent.l1 : Nat → List (S78) → List (S78) → Int → Int → List (S78) → Int → Int → Int → Int → Option (Bool)
  | 0, _, _, _, _, _, _, _, _, _ => none
  | k + 1, x1, x9, x10, x11, x15, x16, x17, x165000, x165001 => if x17 < x16 then (if 0 ≤ x17 then (if x17 < (x15.length : Int) then ((commute_apart.f x165000 x165001 ((rd_T78 x15 x17).f0) ((rd_T78 x15 x17).f1)).bind fun t167 => (if t167 = true then (commute_independent.l1 k x1 x9 x10 x11 x15 x16 (wrap64 (x17 + 1)) x165000 x165001) else (some false))) else (none)) else (none)) else (commute_independent.l0 k x1 x9 x10 (wrap64 (x11 + 1)))
end
def commute_independent.f (k : Nat) (l0 : List (S78)) (l1 : List (S78)) : Option (Bool) := commute_independent.l0 k l1 l0 (l0.length : Int) 0
theorem commute_independent.mono_l : ∀ k, (∀ y0 y1 y2 y3, LeO (commute_independent.l0 k y0 y1 y2 y3) (commute_independent.l0 (k + 1) y0 y1 y2 y3)) ∧ (∀ y0 y1 y2 y3 y4 y5 y6 y7 y8, LeO (commute_independent.l1 k y0 y1 y2 y3 y4 y5 y6 y7 y8) (commute_independent.l1 (k + 1) y0 y1 y2 y3 y4 y5 y6 y7 y8))
  | 0 => ⟨fun _ _ _ _ r h => by simp [commute_independent.l0] at h, fun _ _ _ _ _ _ _ _ _ r h => by simp [commute_independent.l1] at h⟩
  | k + 1 => by
    obtain ⟨ih0, ih1⟩ := commute_independent.mono_l k;refine ⟨?_, ?_⟩
    · intro y0 y1 y2 y3
      unfold commute_independent.l0
      repeat' first
      | (with_reducible exact ih0 _ _ _ _)
      | (with_reducible exact ih1 _ _ _ _ _ _ _ _ _)
      | (with_reducible exact LeO.refl _)
      | (with_reducible exact LeO.none _)
      | (with_reducible refine LeO.ite ?_ ?_)
      | (with_reducible refine LeO.bind ?_ (fun _ => ?_))
      | exact ih0 _ _ _ _
      | exact ih1 _ _ _ _ _ _ _ _ _
      | exact LeO.none _
      | refine LeO.ite ?_ ?_
      | refine LeO.bind ?_ (fun _ => ?_)
    · intro y0 y1 y2 y3 y4 y5 y6 y7 y8
      unfold commute_independent.l1
      repeat' first
      | (with_reducible exact ih0 _ _ _ _)
      | (with_reducible exact ih1 _ _ _ _ _ _ _ _ _)
      | (with_reducible exact LeO.refl _)
      | (with_reducible exact LeO.none _)
      | (with_reducible refine LeO.ite ?_ ?_)
      | (with_reducible refine LeO.bind ?_ (fun _ => ?_))
      | exact ih0 _ _ _ _
      | exact ih1 _ _ _ _ _ _ _ _ _
      | exact LeO.none _
      | refine LeO.ite ?_ ?_
      | refine LeO.bind ?_ (fun _ => ?_)
theorem commute_independent.mono : ∀ a0 a1 k, LeO (commute_independent.f k a0 a1) (commute_independent.f (k + 1) a0 a1) := by
  intro a0 a1 k
  obtain ⟨ih0, ih1⟩ := commute_independent.mono_l k
  unfold commute_independent.f
  repeat' first
      | (with_reducible exact ih0 _ _ _ _)
      | (with_reducible exact ih1 _ _ _ _ _ _ _ _ _)
      | (with_reducible exact LeO.refl _)
      | (with_reducible exact LeO.none _)
      | (with_reducible refine LeO.ite ?_ ?_)
      | (with_reducible refine LeO.bind ?_ (fun _ => ?_))
      | exact ih0 _ _ _ _
      | exact ih1 _ _ _ _ _ _ _ _ _
      | exact LeO.none _
      | refine LeO.ite ?_ ?_
      | refine LeO.bind ?_ (fun _ => ?_)
set_option maxHeartbeats 8000000 in
set_option maxRecDepth 100000 in
theorem commute_independent.calls (k : Nat) (A0 : Option Addr) (c0 : Nat) (l0 : List (S78)) (A1 : Option Addr) (c1 : Nat) (l1 : List (S78)) (r : Bool) (w : World) (hr0 : Kd.C k78 w A0 l0.length l0) (hc0 : l0.length ≤ c0) (hr1 : Kd.C k78 w A1 l1.length l1) (hc1 : l1.length ≤ c1) (h : commute_independent.f k l0 l1 = some r) :
    Calls Try.prog 51 #[.slice A0 l0.length c0, .slice A1 l1.length c1] w fun e w' => e = .returned (.bool r) ∧ Below w.heap.size w w' := by
  have hu78 := Try.underlying78;have HR0 := Aside0.mk hr0;have HC0 := Aside0.mk hc0;clear hr0 hc0;have HR1 := Aside0.mk hr1;have HC1 := Aside0.mk hc1;clear hr1 hc1;have HB := Aside0.mk (Below.refl w.heap.size w);have H : (commute_independent.l0 k l1 l0 (l0.length : Int) 0) = some r := h;clear h;have H' := Aside0.mk H;clear H
  go_enter Try.func51, Try.ntmps51
  go_wp2
  go_loopg [11] k (fun kq v11 w' => ∃ (x11_1 : Int), v11 = .int .i64 x11_1 ∧ Aside0 (commute_independent.l0 kq l1 l0 (l0.length : Int) x11_1 = some r) ∧ Aside0 (kq ≤ k) ∧ Aside0 (Below w.heap.size w w'))
  case atStart => exact ⟨(0), (by first|rfl|(simp only [i64_w, i32_w];done)|(simp only [i64_w, i32_w];rfl)|(simp;done)|(simp [*];done)), H', ⟨Nat.le_refl _⟩, ⟨eB⟩⟩
  case round =>
    clear H'
    try clear c1
    try clear p2
    obtain ⟨x11_1, rfl, HA, HK1, HB⟩ := hrel
    cases gk with
    | zero => exact absurd HA.out (by simp [commute_independent.l0])
    | succ k1 =>
      have H := HA.out;clear HA;simp only [commute_independent.l0] at H
      by_cases c3 : x11_1 < (l0.length : Int)
      · rw [if_pos c3] at H;have c3b0 : decide (x11_1 < (l0.length : Int)) = true := decide_eq_true c3;clear c3
        by_cases c4 : 0 ≤ x11_1
        · rw [if_pos c4] at H;have c4b0 : decide (0 ≤ x11_1) = true := decide_eq_true c4;clear c4
          by_cases c5 : x11_1 < (l0.length : Int)
          · rw [if_pos c5] at H;have c5b0 : decide (x11_1 < (l0.length : Int)) = true := decide_eq_true c5;clear c5;have H' := Aside0.mk H;clear H;have p163 : 0 ≤ (x11_1 : Int) := dA;have q163 : x11_1 < (l0.length : Int) := dA;obtain ⟨ad163, e163, hx163_0, hx163_1⟩ := at_T78 HR0.out x11_1 p163 q163
            cases e163
            replace hx163_0 := (hX HB hx163_0:);replace hx163_1 := (hX HB hx163_1:);replace p163 := eq_true p163;replace q163 := eq_true q163
            go_wp2_with (first|((with_reducible refine gate_dst (N := 6) rfl ?_);refine bE 6 #[.int .i64 0, .int .i64 0] 78 ?_;intro gb164 hg w6 hbox hb;have BK164 := Aside0.mk (hbox);have GW164 := gBe HB hg;have GE164 := gBe HB hg;replace HB := sBe HB hb;clear hb hbox hg;have hcz7_0 := hC BK164 0 (.int .i64 0);have hcz7_1 := hC BK164 1 (.int .i64 0);have hfz7_0 := blk_frozen BK164.out 0;have hfz7_1 := blk_frozen BK164.out 1))
            go_loopg [17] k1 (fun kq v17 w' => ∃ (x17_2 : Int), v17 = .int .i64 x17_2 ∧ Aside0 (commute_independent.l1 kq l1 l0 (l0.length : Int) x11_1 l1 (l1.length : Int) x17_2 ((rd_T78 l0 x11_1).f0) ((rd_T78 l0 x11_1).f1) = some r) ∧ Aside0 (kq ≤ k1) ∧ Bk w' gb164 78 #[.int .i64 ((rd_T78 l0 x11_1).f0), .int .i64 ((rd_T78 l0 x11_1).f1)] ∧ Aside0 (Below w.heap.size w w'))
            case atStart => exact ⟨(0), (by first|rfl|(simp only [i64_w, i32_w];done)|(simp only [i64_w, i32_w];rfl)|(simp;done)|(simp [*];done)), H', ⟨Nat.le_refl _⟩, ⟨kK⟩, ⟨eB⟩⟩
            case round =>
              clear H'
              try clear c1
              try clear p1
              try clear q1
              try clear hx1
              try clear p2
              try clear c3
              try clear c3b0
              try clear c4
              try clear c4b0
              try clear c5
              try clear c5b0
              try clear hcz7_0
              try clear hcz7_1
              try clear hfz7_0
              try clear hfz7_1
              try clear hx163_0
              try clear hx163_1
              try clear p163
              try clear p2
              try clear q163
              obtain ⟨x17_2, rfl, HA, HK2, BK164, HB⟩ := hrel
              cases gk with
              | zero => exact absurd HA.out (by simp [commute_independent.l1])
              | succ k2 =>
                have H := HA.out;clear HA;simp only [commute_independent.l1] at H
                by_cases c8 : x17_2 < (l1.length : Int)
                · rw [if_pos c8] at H;have c8b0 : decide (x17_2 < (l1.length : Int)) = true := decide_eq_true c8;clear c8
                  by_cases c9 : 0 ≤ x17_2
                  · rw [if_pos c9] at H;have c9b0 : decide (0 ≤ x17_2) = true := decide_eq_true c9;clear c9
                    by_cases c10 : x17_2 < (l1.length : Int)
                    · rw [if_pos c10] at H;have c10b0 : decide (x17_2 < (l1.length : Int)) = true := decide_eq_true c10;clear c10;replace H := Option.bind_eq_some_iff.mp H;obtain ⟨t167, A110, H⟩ := H;replace H : (if t167 = true then (commute_independent.l1 k2 l1 l0 (l0.length : Int) x11_1 l1 (l1.length : Int) (wrap64 (x17_2 + 1)) ((rd_T78 l0 x11_1).f0) ((rd_T78 l0 x11_1).f1)) else (some false)) = some r := H;have A11 := Aside0.mk A110;clear A110
                      by_cases c12 : t167 = true
                      · subst c12;have H1 : (commute_independent.l1 k2 l1 l0 (l0.length : Int) x11_1 l1 (l1.length : Int) (wrap64 (x17_2 + 1)) ((rd_T78 l0 x11_1).f0) ((rd_T78 l0 x11_1).f1)) = some r := (by rw [if_pos rfl] at H;exact H);clear H;have H := H1;clear H1;have H' := Aside0.mk H;clear H;have p165 : 0 ≤ (x17_2 : Int) := dA;have q165 : x17_2 < (l1.length : Int) := dA;obtain ⟨ad165, e165, hx165_0, hx165_1⟩ := at_T78 HR1.out x17_2 p165 q165
                        cases e165
                        replace hx165_0 := (hX HB hx165_0:);replace hx165_1 := (hX HB hx165_1:);replace p165 := eq_true p165;replace q165 := eq_true q165
                        go_wp2_with (first|((with_reducible refine gate_dst (N := 8) rfl ?_);refine bE 8 #[.int .i64 0, .int .i64 0] 78 ?_;intro gb166 hg w13 hbox hb;have BK166 := Aside0.mk (hbox);have GW166 := gBe HB hg;have GE166 := gBe HB hg;have NB164_166 := nL BK164 hg;have NB166_164 := nG BK164 hg;replace BK164 := lJ BK164 hb;replace HB := sBe HB hb;clear hb hbox hg;have hnb14 := eq_false NB166_164.out;have hnc14 := eq_false NB164_166.out;have hcz15_0 := hC BK166 0 (.int .i64 0);have hcz15_1 := hC BK166 1 (.int .i64 0);have hfz15_0 := blk_frozen BK166.out 0;have hfz15_1 := blk_frozen BK166.out 1;have hcz16_0 := hC BK164 0 (.int .i64 ((rd_T78 l0 x11_1).f0));have hcz16_1 := hC BK164 1 (.int .i64 ((rd_T78 l0 x11_1).f1));have hfz16_0 := blk_frozen BK164.out 0;have hfz16_1 := blk_frozen BK164.out 1)|((with_reducible refine gate_callee (f := 64) rfl ?_);refine goesL_ (some 23) rfl rfl Try.func64 (by kernel_rfl) rfl #[.agg #[.int .i64 ((rd_T78 l0 x11_1).f0), .int .i64 ((rd_T78 l0 x11_1).f1)], .agg #[.int .i64 ((rd_T78 l1 x17_2).f0), .int .i64 ((rd_T78 l1 x17_2).f1)]] rfl mA ?_;(with_reducible refine (commute_apart.calls ((rd_T78 l0 x11_1).f0) ((rd_T78 l0 x11_1).f1) ((rd_T78 l1 x17_2).f0) ((rd_T78 l1 x17_2).f1) true _ A11.out).mono ?_);rintro e w17 ⟨rfl, hb⟩;refine ⟨_, rfl, ?_⟩;replace BK164 := lJ BK164 hb;replace BK166 := lK gb166 78 #[.int .i64 ((rd_T78 l1 x17_2).f0), .int .i64 ((rd_T78 l1 x17_2).f1)] hb;replace HB := sBe HB hb;(try clear hb)))
                        go_roundg k2
                        case measure => have := HK1.out;have := HK2.out;omega
                        case rel => exact ⟨(wrap64 (x17_2 + 1)), (by first|rfl|(simp only [i64_w, i32_w];done)|(simp only [i64_w, i32_w];rfl)|(simp;done)|(simp [*];done)), H', ⟨by have := HK1.out;have := HK2.out;omega⟩, ⟨kK⟩, ⟨eB⟩⟩
                      · replace c12 := Bool.eq_false_iff.mpr c12;subst c12;have H1 : (some false) = some r := (by rw [if_neg (show ¬ (false = true) by decide)] at H;exact H);clear H;have H := H1;clear H1;obtain rfl := Option.some.inj H;have p165 : 0 ≤ (x17_2 : Int) := dA;have q165 : x17_2 < (l1.length : Int) := dA;obtain ⟨ad165, e165, hx165_0, hx165_1⟩ := at_T78 HR1.out x17_2 p165 q165
                        cases e165
                        replace hx165_0 := (hX HB hx165_0:);replace hx165_1 := (hX HB hx165_1:);replace p165 := eq_true p165;replace q165 := eq_true q165
                        go_wp2_with (first|((with_reducible refine gate_dst (N := 8) rfl ?_);refine bE 8 #[.int .i64 0, .int .i64 0] 78 ?_;intro gb166 hg w18 hbox hb;have BK166 := Aside0.mk (hbox);have GW166 := gBe HB hg;have GE166 := gBe HB hg;have NB164_166 := nL BK164 hg;have NB166_164 := nG BK164 hg;replace BK164 := lJ BK164 hb;replace HB := sBe HB hb;clear hb hbox hg;have hnb19 := eq_false NB166_164.out;have hnc19 := eq_false NB164_166.out;have hcz20_0 := hC BK166 0 (.int .i64 0);have hcz20_1 := hC BK166 1 (.int .i64 0);have hfz20_0 := blk_frozen BK166.out 0;have hfz20_1 := blk_frozen BK166.out 1;have hcz21_0 := hC BK164 0 (.int .i64 ((rd_T78 l0 x11_1).f0));have hcz21_1 := hC BK164 1 (.int .i64 ((rd_T78 l0 x11_1).f1));have hfz21_0 := blk_frozen BK164.out 0;have hfz21_1 := blk_frozen BK164.out 1)|((with_reducible refine gate_callee (f := 64) rfl ?_);refine goesL_ (some 23) rfl rfl Try.func64 (by kernel_rfl) rfl #[.agg #[.int .i64 ((rd_T78 l0 x11_1).f0), .int .i64 ((rd_T78 l0 x11_1).f1)], .agg #[.int .i64 ((rd_T78 l1 x17_2).f0), .int .i64 ((rd_T78 l1 x17_2).f1)]] rfl mA ?_;(with_reducible refine (commute_apart.calls ((rd_T78 l0 x11_1).f0) ((rd_T78 l0 x11_1).f1) ((rd_T78 l1 x17_2).f0) ((rd_T78 l1 x17_2).f1) false _ A11.out).mono ?_);rintro e w22 ⟨rfl, hb⟩;refine ⟨_, rfl, ?_⟩;replace BK164 := lJ BK164 hb;replace BK166 := lK gb166 78 #[.int .i64 ((rd_T78 l1 x17_2).f0), .int .i64 ((rd_T78 l1 x17_2).f1)] hb;replace HB := sBe HB hb;(try clear hb)))
                        go_ret
                        exact ⟨rW, eB⟩
                    · rw [if_neg c10] at H;exact absurd H (by simp)
                  · rw [if_neg c9] at H;exact absurd H (by simp)
                · rw [if_neg c8] at H;have c8b0 : decide (x17_2 < (l1.length : Int)) = false := decide_eq_false c8;clear c8;have H' := Aside0.mk H;clear H
                  go_wp2
                  go_roundg k2
                  case measure => have := HK1.out;have := HK2.out;omega
                  case rel => exact ⟨(wrap64 (x11_1 + 1)), (by first|rfl|(simp only [i64_w, i32_w];done)|(simp only [i64_w, i32_w];rfl)|(simp;done)|(simp [*];done)), H', ⟨by have := HK1.out;have := HK2.out;omega⟩, ⟨eB⟩⟩
          · rw [if_neg c5] at H;exact absurd H (by simp)
        · rw [if_neg c4] at H;exact absurd H (by simp)
      · rw [if_neg c3] at H;have c3b0 : decide (x11_1 < (l0.length : Int)) = false := decide_eq_false c3;clear c3;obtain rfl := Option.some.inj H
        go_wp2
        go_ret
        exact ⟨rW, eB⟩

/-! ### commute_news: function 52 -/
def commute_news.l0 : Nat → List (S78) → Int → List (S47) → Int → Int → Option ((List (S78)))
  | 0, _, _, _, _, _ => none
  | k + 1, x3, x4, x8, x9, x10 => if x10 < x9 then (if 0 ≤ x10 then (if x10 < (x8.length : Int) then (if x3.length < 8796093022208 then (commute_news.l0 k (x3 ++ [(⟨wrap64 (((rd_T47 x8 x10).f0) + x4), wrap64 ((wrap64 (((rd_T47 x8 x10).f0) + x4)) + (((rd_T47 x8 x10).f2).length : Int))⟩ : S78)]) (wrap64 (x4 + (wrap64 ((((rd_T47 x8 x10).f2).length : Int) - (((rd_T47 x8 x10).f1).length : Int))))) x8 x9 (wrap64 (x10 + 1))) else (none)) else (none)) else (none)) else (some x3)
def commute_news.f (k : Nat) (l0_0 : List (S47)) : Option ((List (S78))) := commute_news.l0 k ([] : List (S78)) 0 l0_0 (l0_0.length : Int) 0
theorem commute_news.mono_l : ∀ k, (∀ y0 y1 y2 y3 y4, LeO (commute_news.l0 k y0 y1 y2 y3 y4) (commute_news.l0 (k + 1) y0 y1 y2 y3 y4))
  | 0 => fun _ _ _ _ _ r h => by simp [commute_news.l0] at h
  | k + 1 => by
    have ih0 := commute_news.mono_l k
    · intro y0 y1 y2 y3 y4
      unfold commute_news.l0
      repeat' first
      | (with_reducible exact ih0 _ _ _ _ _)
      | (with_reducible exact LeO.refl _)
      | (with_reducible exact LeO.none _)
      | (with_reducible refine LeO.ite ?_ ?_)
      | (with_reducible refine LeO.bind ?_ (fun _ => ?_))
      | exact ih0 _ _ _ _ _
      | exact LeO.none _
      | refine LeO.ite ?_ ?_
      | refine LeO.bind ?_ (fun _ => ?_)
theorem commute_news.mono : ∀ a0 k, LeO (commute_news.f k a0) (commute_news.f (k + 1) a0) := by
  intro a0 k
  have ih0 := commute_news.mono_l k
  unfold commute_news.f
  repeat' first
      | (with_reducible exact ih0 _ _ _ _ _)
      | (with_reducible exact LeO.refl _)
      | (with_reducible exact LeO.none _)
      | (with_reducible refine LeO.ite ?_ ?_)
      | (with_reducible refine LeO.bind ?_ (fun _ => ?_))
      | exact ih0 _ _ _ _ _
      | exact LeO.none _
      | refine LeO.ite ?_ ?_
      | refine LeO.bind ?_ (fun _ => ?_)
set_option maxHeartbeats 8000000 in
set_option maxRecDepth 100000 in
theorem commute_news.calls (k : Nat) (A0_0 : Option Addr) (c0_0 : Nat) (l0_0 : List (S47)) (r : List (S78)) (w : World) (hr0_0 : Kd.C k47 w A0_0 l0_0.length l0_0) (hc0_0 : l0_0.length ≤ c0_0) (h : commute_news.f k l0_0 = some r) :
    Calls Try.prog 52 #[.agg #[.slice A0_0 l0_0.length c0_0]] w fun e w' => ∃ v0_ : Value, e = .returned (v0_) ∧ Kd.R k78 78 w' w.heap.size (fun _ => True) v0_ r ∧ Below w.heap.size w w' := by
  have hu24 := Try.underlying24;have hu47 := Try.underlying47;have hu78 := Try.underlying78;have HR0_0 := Aside0.mk hr0_0;have HC0_0 := Aside0.mk hc0_0;clear hr0_0 hc0_0;have HB := Aside0.mk (Below.refl w.heap.size w);have H : (commute_news.l0 k ([] : List (S78)) 0 l0_0 (l0_0.length : Int) 0) = some r := h;clear h;have H' := Aside0.mk H;clear H
  go_enter Try.func52, Try.ntmps52
  go_wp2_with (first|((with_reducible refine gate_dst (N := 1) rfl ?_);refine bE 1 #[.slice A0_0 l0_0.length c0_0] 24 ?_;intro gb168 hg w2 hbox hb;have BK168 := Aside0.mk (hbox);have GW168 := gBe HB hg;have GE168 := gBe HB hg;replace HB := sBe HB hb;clear hb hbox hg;have hcz3_0 := hC BK168 0 (.slice A0_0 l0_0.length c0_0);have hfz3_0 := blk_frozen BK168.out 0))
  go_loopg [3, 4, 10] k (fun kq v3 v4 v10 w' => ∃ (x3_1 : List (S78)) (x4_1 : Int) (x10_1 : Int), v4 = .int .i64 x4_1 ∧ v10 = .int .i64 x10_1 ∧ Aside0 (commute_news.l0 kq x3_1 x4_1 l0_0 (l0_0.length : Int) x10_1 = some r) ∧ Aside0 (kq ≤ k) ∧ Aside0 (Kd.R k78 78 w' w.heap.size (fun _ => True) v3 x3_1) ∧ Bk w' gb168 24 #[(.slice A0_0 l0_0.length c0_0)] ∧ Aside0 (Below w.heap.size w w'))
  case atStart => exact ⟨(([] : List (S78))), (0), (0), (by first|rfl|(simp only [i64_w, i32_w];done)|(simp only [i64_w, i32_w];rfl)|(simp;done)|(simp [*];done)), (by first|rfl|(simp only [i64_w, i32_w];done)|(simp only [i64_w, i32_w];rfl)|(simp;done)|(simp [*];done)), H', ⟨Nat.le_refl _⟩, ⟨by first|exact Kd.R_nil _ _ _ _ _|exact Kd.N_nil _ _ _ _ _|exact Kd.V_nil _ _ _ _ _|exact Kd.Q_nil _ _ _ _ _|exact Kd.S_nil _ _ _ _ _⟩, ⟨kK⟩, ⟨eB⟩⟩
  case round =>
    clear H'
    try clear p2
    try clear hcz3_0
    try clear hfz3_0
    obtain ⟨x3_1, x4_1, x10_1, rfl, rfl, HA, HK1, HO_3, BK168, HB⟩ := hrel
    cases gk with
    | zero => exact absurd HA.out (by simp [commute_news.l0])
    | succ k1 =>
      have H := HA.out;clear HA;simp only [commute_news.l0] at H
      by_cases c4 : x10_1 < (l0_0.length : Int)
      · rw [if_pos c4] at H;have c4b0 : decide (x10_1 < (l0_0.length : Int)) = true := decide_eq_true c4;clear c4
        by_cases c5 : 0 ≤ x10_1
        · rw [if_pos c5] at H;have c5b0 : decide (0 ≤ x10_1) = true := decide_eq_true c5;clear c5
          by_cases c6 : x10_1 < (l0_0.length : Int)
          · rw [if_pos c6] at H;have c6b0 : decide (x10_1 < (l0_0.length : Int)) = true := decide_eq_true c6;clear c6
            by_cases c7 : x3_1.length < 8796093022208
            · rw [if_pos c7] at H;have LMc7 := Aside0.mk c7;clear c7;obtain ⟨y171, hy171⟩ : ∃ y_ : List (S78), y_ = (x3_1 ++ [(⟨wrap64 (((rd_T47 l0_0 x10_1).f0) + x4_1), wrap64 ((wrap64 (((rd_T47 l0_0 x10_1).f0) + x4_1)) + (((rd_T47 l0_0 x10_1).f2).length : Int))⟩ : S78)]) := ⟨_, rfl⟩;replace H : (commute_news.l0 k1 y171 (wrap64 (x4_1 + (wrap64 ((((rd_T47 l0_0 x10_1).f2).length : Int) - (((rd_T47 l0_0 x10_1).f1).length : Int))))) l0_0 (l0_0.length : Int) (wrap64 (x10_1 + 1))) = some r := (by first|(rw [hy171];with_reducible exact H)|(have H2_ := (Option.bind_some _ _).symm.trans H;rw [hy171];with_reducible exact H2_)|(have H2_ := (Option.bind_some _ _).symm.trans H;with_reducible exact H2_)|with_reducible exact H|(rw [hy171];exact H)|exact H);have Ny171 := Aside0.mk hy171;clear hy171;have H' := Aside0.mk H;clear H;have p169 : 0 ≤ (x10_1 : Int) := dA;have q169 : x10_1 < (l0_0.length : Int) := dA;obtain ⟨ad169, A169_1, c169_1, A169_2, c169_2, e169, hx169_0, hx169_1, hx169_2, hl169_1, hi169_1, hl169_2, hi169_2⟩ := at_T47 HR0_0.out x10_1 p169 q169
              cases e169
              replace hx169_0 := (hX HB hx169_0:);replace hx169_1 := (hX HB hx169_1:);replace hx169_2 := (hX HB hx169_2:);have HR169_1 := Aside0.mk hi169_1;have HC169_1 := Aside0.mk hl169_1;clear hi169_1 hl169_1;have HR169_2 := Aside0.mk hi169_2;have HC169_2 := Aside0.mk hl169_2;clear hi169_2 hl169_2;replace p169 := eq_true p169;replace q169 := eq_true q169
              go_wp2_with (first|((with_reducible refine gate_dst (N := 6) rfl ?_);refine bE 6 #[.int .i64 0, .slice none 0 0, .slice none 0 0] 47 ?_;intro gb170 hg w8 hbox hb;have BK170 := Aside0.mk (hbox);have GW170 := gBe HB hg;have GE170 := gBe HB hg;have NB168_170 := nL BK168 hg;have NB170_168 := nG BK168 hg;replace HO_3 := rL HO_3 hb;replace BK168 := lJ BK168 hb;replace HB := sBe HB hb;clear hb hbox hg;have hnb9 := eq_false NB170_168.out;have hnc9 := eq_false NB168_170.out;have hcz10_0 := hC BK170 0 (.int .i64 0);have hcz10_1 := hC BK170 1 (.slice none 0 0);have hcz10_2 := hC BK170 2 (.slice none 0 0);have hfz10_0 := blk_frozen BK170.out 0;have hfz10_1 := blk_frozen BK170.out 1;have hfz10_2 := blk_frozen BK170.out 2)|((with_reducible refine gate_builtin (b := .append) (xs := #[.tmp 14, .tmp 28]) rfl ?_);at_builtin;refine Kd.R_append k78 (w0 := w) w.heap.size rfl (.tmp 14) (.tmp 28) 63 78 (.agg #[(.int .i64 0), (.int .i64 0)]) 16 rfl Try.underlying63 info78 rfl (by decide) (by omega) u3 x3_1 (⟨wrap64 (((rd_T47 l0_0 x10_1).f0) + x4_1), wrap64 ((wrap64 (((rd_T47 l0_0 x10_1).f0) + x4_1)) + (((rd_T47 l0_0 x10_1).f2).length : Int))⟩ : S78) [.int .i64 (wrap64 (((rd_T47 l0_0 x10_1).f0) + x4_1)), .int .i64 (wrap64 ((wrap64 (((rd_T47 l0_0 x10_1).f0) + x4_1)) + (((rd_T47 l0_0 x10_1).f2).length : Int)))] (fun _ => True) (fun _ => False) rfl (by first|(go_simp;done)|(go_simp;rfl)) ?aP (fun _ hk => hk.elim) ?aF ?aO ?aB ?aS ?aL ?_;(case aP => exact k78_mkM _ _ _ (⟨wrap64 (((rd_T47 l0_0 x10_1).f0) + x4_1), wrap64 ((wrap64 (((rd_T47 l0_0 x10_1).f0) + x4_1)) + (((rd_T47 l0_0 x10_1).f2).length : Int))⟩ : S78));(case aB => exact eB);(case aF => exact (fun _ _ => trivial));(case aO => exact (by (with_reducible repeat first|apply rA|apply rN|apply rD);exact Kd.R_mono (Kd.R_far (p := ⟨gb170, 2, none⟩) (Kd.R_far (p := ⟨gb170, 1, none⟩) (Kd.R_far (p := ⟨gb170, 0, none⟩) (Kd.R_types HO_3.out BK170.out (by decide)) (fun _ hk => hk.2) (.int .i64 ((rd_T47 l0_0 x10_1).f0))) (fun _ hk => hk.2) (.slice A169_1 ((rd_T47 l0_0 x10_1).f1).length c169_1)) (fun _ hk => hk.2) (.slice A169_2 ((rd_T47 l0_0 x10_1).f2).length c169_2)) (fun _ hk => trivial)));(case aS => exact (below_size eB));(case aL => have := LMc7.out;omega);intro v172 w11 ho hb hg hat;rw [← Ny171.out] at ho;have n0_ := Aside0.mk (blk_grown (g := gb168) (o := .cells #[.slice (some ad169) l0_0.length c0_0] 24 (0, 0)) kK hg (Kd.R_ne HO_3.out BK168.out (by decide)));have n1_ := Aside0.mk (blk_grown (g := gb170) (o := .cells #[.int .i64 ((rd_T47 l0_0 x10_1).f0), .slice A169_1 ((rd_T47 l0_0 x10_1).f1).length c169_1, .slice A169_2 ((rd_T47 l0_0 x10_1).f2).length c169_2] 47 (0, 0)) kK hg (Kd.R_ne HO_3.out BK170.out (by decide)));have n2_ := Aside0.mk (hb);have n3_ := Aside0.mk (ho);clear BK168;clear BK170;clear HB;clear HO_3;have BK168 := n0_;have BK170 := n1_;have HB := n2_;have HO173 := n3_;clear n0_ n1_ n2_ n3_;clear ho hb hg hat;have hcz12_0 := hC BK170 0 (.int .i64 ((rd_T47 l0_0 x10_1).f0));have hcz12_1 := hC BK170 1 (.slice A169_1 ((rd_T47 l0_0 x10_1).f1).length c169_1);have hcz12_2 := hC BK170 2 (.slice A169_2 ((rd_T47 l0_0 x10_1).f2).length c169_2);have hfz12_0 := blk_frozen BK170.out 0;have hfz12_1 := blk_frozen BK170.out 1;have hfz12_2 := blk_frozen BK170.out 2))
              go_roundg k1
              case measure => have := HK1.out;omega
              case rel => exact ⟨(y171), (wrap64 (x4_1 + (wrap64 ((((rd_T47 l0_0 x10_1).f2).length : Int) - (((rd_T47 l0_0 x10_1).f1).length : Int))))), (wrap64 (x10_1 + 1)), (by first|rfl|(simp only [i64_w, i32_w];done)|(simp only [i64_w, i32_w];rfl)|(simp;done)|(simp [*];done)), (by first|rfl|(simp only [i64_w, i32_w];done)|(simp only [i64_w, i32_w];rfl)|(simp;done)|(simp [*];done)), H', ⟨by have := HK1.out;omega⟩, ⟨by (with_reducible repeat first|apply rA|apply rN|apply rD);exact HO173.out⟩, ⟨kK⟩, ⟨eB⟩⟩
            · rw [if_neg c7] at H;exact absurd H (by simp)
          · rw [if_neg c6] at H;exact absurd H (by simp)
        · rw [if_neg c5] at H;exact absurd H (by simp)
      · rw [if_neg c4] at H;have c4b0 : decide (x10_1 < (l0_0.length : Int)) = false := decide_eq_false c4;clear c4;obtain rfl := Option.some.inj H
        go_wp2
        go_ret
        exact ⟨_, rW, by (with_reducible repeat first|apply rA|apply rN|apply rD);exact HO_3.out, eB⟩

/-! ### commute_olds: function 53 -/
def commute_olds.l0 : Nat → List (S78) → List (S47) → Int → Int → Option ((List (S78)))
  | 0, _, _, _, _ => none
  | k + 1, x3, x7, x8, x9 => if x9 < x8 then (if 0 ≤ x9 then (if x9 < (x7.length : Int) then ((textpatch_End.f ((rd_T47 x7 x9).f0) ((rd_T47 x7 x9).f1) ((rd_T47 x7 x9).f2)).bind fun t177 => (if x3.length < 8796093022208 then (commute_olds.l0 k (x3 ++ [(⟨(rd_T47 x7 x9).f0, t177⟩ : S78)]) x7 x8 (wrap64 (x9 + 1))) else (none))) else (none)) else (none)) else (some x3)
def commute_olds.f (k : Nat) (l0_0 : List (S47)) : Option ((List (S78))) := commute_olds.l0 k ([] : List (S78)) l0_0 (l0_0.length : Int) 0
theorem commute_olds.mono_l : ∀ k, (∀ y0 y1 y2 y3, LeO (commute_olds.l0 k y0 y1 y2 y3) (commute_olds.l0 (k + 1) y0 y1 y2 y3))
  | 0 => fun _ _ _ _ r h => by simp [commute_olds.l0] at h
  | k + 1 => by
    have ih0 := commute_olds.mono_l k
    · intro y0 y1 y2 y3
      unfold commute_olds.l0
      repeat' first
      | (with_reducible exact ih0 _ _ _ _)
      | (with_reducible exact LeO.refl _)
      | (with_reducible exact LeO.none _)
      | (with_reducible refine LeO.ite ?_ ?_)
      | (with_reducible refine LeO.bind ?_ (fun _ => ?_))
      | exact ih0 _ _ _ _
      | exact LeO.none _
      | refine LeO.ite ?_ ?_
      | refine LeO.bind ?_ (fun _ => ?_)
theorem commute_olds.mono : ∀ a0 k, LeO (commute_olds.f k a0) (commute_olds.f (k + 1) a0) := by
  intro a0 k
  have ih0 := commute_olds.mono_l k
  unfold commute_olds.f
  repeat' first
      | (with_reducible exact ih0 _ _ _ _)
      | (with_reducible exact LeO.refl _)
      | (with_reducible exact LeO.none _)
      | (with_reducible refine LeO.ite ?_ ?_)
      | (with_reducible refine LeO.bind ?_ (fun _ => ?_))
      | exact ih0 _ _ _ _
      | exact LeO.none _
      | refine LeO.ite ?_ ?_
      | refine LeO.bind ?_ (fun _ => ?_)
def commute_olds.T5 : Bool × List (List Nat × List Nat) := (true, [([], []), ([], []), ([1], [1]), ([], []), ([3], [3]), ([2, 4], [2, 4]), ([5], [5]), ([0, 6, 4], [0, 6]), ([7, 7, 0, 1, 2, 3, 4, 5, 6, 7], [0, 7])])
def commute_olds.B5 : List Nat := [0, 0, 2, 0, 8, 30, 62, 127, 255]
theorem commute_olds.tab5 : rtab .any (opsOf Try.f53 5) = commute_olds.T5 := by kernel_rfl
theorem commute_olds.bits5 : waitsOk commute_olds.T5.2 commute_olds.B5 = true := by kernel_rfl
set_option maxHeartbeats 8000000 in
set_option maxRecDepth 100000 in
theorem commute_olds.calls (k : Nat) (A0_0 : Option Addr) (c0_0 : Nat) (l0_0 : List (S47)) (r : List (S78)) (w : World) (hr0_0 : Kd.C k47 w A0_0 l0_0.length l0_0) (hc0_0 : l0_0.length ≤ c0_0) (h : commute_olds.f k l0_0 = some r) :
    Calls Try.prog 53 #[.agg #[.slice A0_0 l0_0.length c0_0]] w fun e w' => ∃ v0_ : Value, e = .returned (v0_) ∧ Kd.R k78 78 w' w.heap.size (fun _ => True) v0_ r ∧ Below w.heap.size w w' := by
  have hu24 := Try.underlying24;have hu47 := Try.underlying47;have hu78 := Try.underlying78;have HR0_0 := Aside0.mk hr0_0;have HC0_0 := Aside0.mk hc0_0;clear hr0_0 hc0_0;have HB := Aside0.mk (Below.refl w.heap.size w);have H : (commute_olds.l0 k ([] : List (S78)) l0_0 (l0_0.length : Int) 0) = some r := h;clear h;have H' := Aside0.mk H;clear H
  go_enter Try.func53, Try.ntmps53
  go_wp2_with (first|((with_reducible refine gate_dst (N := 1) rfl ?_);refine bE 1 #[.slice A0_0 l0_0.length c0_0] 24 ?_;intro gb174 hg w2 hbox hb;have BK174 := Aside0.mk (hbox);have GW174 := gBe HB hg;have GE174 := gBe HB hg;replace HB := sBe HB hb;clear hb hbox hg;have hcz3_0 := hC BK174 0 (.slice A0_0 l0_0.length c0_0);have hfz3_0 := blk_frozen BK174.out 0))
  go_loopg [3, 9] k (fun kq v3 v9 w' => ∃ (x3_1 : List (S78)) (x9_1 : Int), v9 = .int .i64 x9_1 ∧ Aside0 (commute_olds.l0 kq x3_1 l0_0 (l0_0.length : Int) x9_1 = some r) ∧ Aside0 (kq ≤ k) ∧ Aside0 (Kd.R k78 78 w' w.heap.size (fun _ => True) v3 x3_1) ∧ Bk w' gb174 24 #[(.slice A0_0 l0_0.length c0_0)] ∧ Aside0 (Below w.heap.size w w'))
  case atStart => exact ⟨(([] : List (S78))), (0), (by first|rfl|(simp only [i64_w, i32_w];done)|(simp only [i64_w, i32_w];rfl)|(simp;done)|(simp [*];done)), H', ⟨Nat.le_refl _⟩, ⟨by first|exact Kd.R_nil _ _ _ _ _|exact Kd.N_nil _ _ _ _ _|exact Kd.V_nil _ _ _ _ _|exact Kd.Q_nil _ _ _ _ _|exact Kd.S_nil _ _ _ _ _⟩, ⟨kK⟩, ⟨eB⟩⟩
  case round =>
    clear H'
    try clear p2
    try clear hcz3_0
    try clear hfz3_0
    obtain ⟨x3_1, x9_1, rfl, HA, HK1, HO_3, BK174, HB⟩ := hrel
    cases gk with
    | zero => exact absurd HA.out (by simp [commute_olds.l0])
    | succ k1 =>
      have H := HA.out;clear HA;simp only [commute_olds.l0] at H
      by_cases c4 : x9_1 < (l0_0.length : Int)
      · rw [if_pos c4] at H;have c4b0 : decide (x9_1 < (l0_0.length : Int)) = true := decide_eq_true c4;clear c4
        by_cases c5 : 0 ≤ x9_1
        · rw [if_pos c5] at H;have c5b0 : decide (0 ≤ x9_1) = true := decide_eq_true c5;clear c5
          by_cases c6 : x9_1 < (l0_0.length : Int)
          · rw [if_pos c6] at H;have c6b0 : decide (x9_1 < (l0_0.length : Int)) = true := decide_eq_true c6;clear c6;replace H := Option.bind_eq_some_iff.mp H;obtain ⟨t177, A70, H⟩ := H;replace H : (if x3_1.length < 8796093022208 then (commute_olds.l0 k1 (x3_1 ++ [(⟨(rd_T47 l0_0 x9_1).f0, t177⟩ : S78)]) l0_0 (l0_0.length : Int) (wrap64 (x9_1 + 1))) else (none)) = some r := H;have A7 := Aside0.mk A70;clear A70
            by_cases c8 : x3_1.length < 8796093022208
            · rw [if_pos c8] at H;have LMc8 := Aside0.mk c8;clear c8;obtain ⟨y178, hy178⟩ : ∃ y_ : List (S78), y_ = (x3_1 ++ [(⟨(rd_T47 l0_0 x9_1).f0, t177⟩ : S78)]) := ⟨_, rfl⟩;replace H : (commute_olds.l0 k1 y178 l0_0 (l0_0.length : Int) (wrap64 (x9_1 + 1))) = some r := (by first|(rw [hy178];with_reducible exact H)|(have H2_ := (Option.bind_some _ _).symm.trans H;rw [hy178];with_reducible exact H2_)|(have H2_ := (Option.bind_some _ _).symm.trans H;with_reducible exact H2_)|with_reducible exact H|(rw [hy178];exact H)|exact H);have Ny178 := Aside0.mk hy178;clear hy178;have H' := Aside0.mk H;clear H;have p175 : 0 ≤ (x9_1 : Int) := dA;have q175 : x9_1 < (l0_0.length : Int) := dA;obtain ⟨ad175, A175_1, c175_1, A175_2, c175_2, e175, hx175_0, hx175_1, hx175_2, hl175_1, hi175_1, hl175_2, hi175_2⟩ := at_T47 HR0_0.out x9_1 p175 q175
              cases e175
              replace hx175_0 := (hX HB hx175_0:);replace hx175_1 := (hX HB hx175_1:);replace hx175_2 := (hX HB hx175_2:);have HR175_1 := Aside0.mk hi175_1;have HC175_1 := Aside0.mk hl175_1;clear hi175_1 hl175_1;have HR175_2 := Aside0.mk hi175_2;have HC175_2 := Aside0.mk hl175_2;clear hi175_2 hl175_2;replace p175 := eq_true p175;replace q175 := eq_true q175
              try go_wp2_with (first|((with_reducible refine gate_dst (N := 5) rfl ?_);refine bE 5 #[.int .i64 0, .slice none 0 0, .slice none 0 0] 47 ?_;intro gb176 hg w9 hbox hb;have BK176 := Aside0.mk (hbox);have GW176 := gBe HB hg;have GE176 := gBe HB hg;have NB174_176 := nL BK174 hg;have NB176_174 := nG BK174 hg;replace HO_3 := rL HO_3 hb;replace BK174 := lJ BK174 hb;replace HB := sBe HB hb;clear hb hbox hg;have hnb10 := eq_false NB176_174.out;have hnc10 := eq_false NB174_176.out;have hcz11_0 := hC BK176 0 (.int .i64 0);have hcz11_1 := hC BK176 1 (.slice none 0 0);have hcz11_2 := hC BK176 2 (.slice none 0 0);have hfz11_0 := blk_frozen BK176.out 0;have hfz11_1 := blk_frozen BK176.out 1;have hfz11_2 := blk_frozen BK176.out 2))
              obtain ⟨w12, hW_⟩ : ∃ w_, w_ = (((w9.setCell ⟨gb176, 0, none⟩ (.int .i64 ((rd_T47 l0_0 x9_1).f0))).setCell ⟨gb176, 1, none⟩ (.slice A175_1 ((rd_T47 l0_0 x9_1).f1).length c175_1)).setCell ⟨gb176, 2, none⟩ (.slice A175_2 ((rd_T47 l0_0 x9_1).f2).length c175_2)) := ⟨_, rfl⟩;have n0_ : Aside0 (Kd.R k78 78 w12 w.heap.size (fun _ => True) u3 x3_1) := ⟨by rw [hW_];(with_reducible repeat first|apply rA|apply rN|apply rD);exact Kd.R_mono (Kd.R_far (p := ⟨gb176, 2, none⟩) (Kd.R_far (p := ⟨gb176, 1, none⟩) (Kd.R_far (p := ⟨gb176, 0, none⟩) (Kd.R_types HO_3.out BK176.out (by decide)) (fun _ hk => hk.2) (.int .i64 ((rd_T47 l0_0 x9_1).f0))) (fun _ hk => hk.2) (.slice A175_1 ((rd_T47 l0_0 x9_1).f1).length c175_1)) (fun _ hk => hk.2) (.slice A175_2 ((rd_T47 l0_0 x9_1).f2).length c175_2)) (fun _ hk => trivial)⟩;have n1_ : Bk w12 gb174 24 #[.slice (some ad175) l0_0.length c0_0] := ⟨by rw [hW_];exact kK⟩;have n2_ : Bk w12 gb176 47 #[.int .i64 ((rd_T47 l0_0 x9_1).f0), .slice A175_1 ((rd_T47 l0_0 x9_1).f1).length c175_1, .slice A175_2 ((rd_T47 l0_0 x9_1).f2).length c175_2] := ⟨by rw [hW_];exact kK⟩;have n3_ : Aside0 (Below w.heap.size w w12) := ⟨by rw [hW_];exact eB⟩;(try clear HO_3);(try clear BK174);(try clear BK176);(try clear HB);(try rw [← hW_]);clear hW_;have HO_3 := n0_;have BK174 := n1_;have BK176 := n2_;have HB := n3_;clear n0_ n1_ n2_ n3_;replace HO_3 := Aside0.mk (Kd.R_drew HO_3.out);replace BK174 := Aside0.mk (blk_drew BK174.out);replace BK176 := Aside0.mk (blk_drew BK176.out);replace HB := Aside0.mk (below_drew1 HB.out);refine start_ (n := 9) (S := fun w' => w'.cell? ⟨gb176, 0, none⟩ = some (.int .i64 ((rd_T47 l0_0 x9_1).f0)) ∧ w'.cell? ⟨gb176, 1, none⟩ = some (.slice A175_1 ((rd_T47 l0_0 x9_1).f1).length c175_1) ∧ w'.cell? ⟨gb176, 2, none⟩ = some (.slice A175_2 ((rd_T47 l0_0 x9_1).f2).length c175_2)) (ds := []) (mb 9 0) (by kernel_rfl) rfl (by kernel_rfl) ⟨(blk_cell BK176.out 0).trans rfl, (blk_cell BK176.out 1).trans rfl, (blk_cell BK176.out 2).trans rfl⟩ (fun hHeld => ?_);refine with_tabW commute_olds.tab5 commute_olds.bits5 (fun HT_ HW_ => ?_);generalize w12.drew = w13 at HO_3 BK174 BK176 HB hHeld ⊢;refine pA 0 13 (mb 9 1) HT_ rfl rfl ?_;refine pA 1 14 (mb 9 3) HT_ rfl rfl ?_;refine tA 2 15 (mb 9 7) HT_ HW_ hHeld rfl rfl (by rintro w' ⟨s0, s1, s2⟩;go_simp;with_reducible rfl) ?_;refine tA 3 16 (mb 9 15) HT_ HW_ hHeld rfl rfl (by rintro w' ⟨s0, s1, s2⟩;go_simp;with_reducible rfl) ?_;refine one_ (i := 4) (N := some 17) (mb 9 31) rfl rfl (one_of HT_.out (by kernel_rfl)) (by decide) (fun K hK => ?_);refine goes_ Try.func33 (by kernel_rfl) rfl #[.agg #[.int .i64 ((rd_T47 l0_0 x9_1).f0), .slice A175_1 ((rd_T47 l0_0 x9_1).f1).length c175_1, .slice A175_2 ((rd_T47 l0_0 x9_1).f2).length c175_2]] (by rfl) rfl rfl mA ?_
              with_reducible refine (textpatch_End.calls ((rd_T47 l0_0 x9_1).f0) _ _ ((rd_T47 l0_0 x9_1).f1) _ _ ((rd_T47 l0_0 x9_1).f2) t177 _ ?side1 ?side2 ?side3 ?side4 A7.out).mono ?_
              (case side1 => exact cBe HR175_1);(case side2 => exact HC175_1.out);(case side3 => exact cBe HR175_2);(case side4 => exact HC175_2.out)
              rintro e w14 ⟨rfl, hb⟩
              refine ⟨_, rfl, ?_⟩;replace HO_3 := rL HO_3 hb;replace BK174 := lJ BK174 hb;replace BK176 := lJ BK176 hb;replace HB := sBe HB hb;(try clear hb);refine hK.out _ _ ⟨(blk_cell BK176.out 0).trans rfl, (blk_cell BK176.out 1).trans rfl, (blk_cell BK176.out 2).trans rfl⟩ (fun hHeld => ?_);clear hK K;refine nmA (some 17) ?_;refine pA 5 18 (mb 9 63) HT_ rfl rfl ?_;refine one_ (i := 6) (N := some 19) (mb 9 127) rfl rfl (one_of HT_.out (by kernel_rfl)) (by decide) (fun K hK => ?_);refine value_ (w1 := ?_) (v := ?_) (by rfl) rfl ?_ ?_;rotate_left 2
              · go_simp
                constructor
                · rfl
                · rfl
              refine hK.out _ _ ⟨(blk_cell (blk_alloc BK176.out _) 0).trans rfl, (blk_cell (blk_alloc BK176.out _) 1).trans rfl, (blk_cell (blk_alloc BK176.out _) 2).trans rfl⟩ (fun hHeld => ?_);clear hK K;refine nmA (some 19) ?_;refine one_ (i := 7) (N := some 20) (mb 9 255) rfl rfl (one_of HT_.out (by kernel_rfl)) (by decide) (fun K hK => ?_);refine Kd.R_append_step k78 (w0 := w) w.heap.size (by rfl) (.tmp 13) (.tmp 19) 63 78 (.agg #[(.int .i64 0), (.int .i64 0)]) 16 rfl Try.underlying63 info78 rfl (by decide) (by omega) u3 x3_1 (⟨(rd_T47 l0_0 x9_1).f0, t177⟩ : S78) [.int .i64 ((rd_T47 l0_0 x9_1).f0), .int .i64 t177] (fun _ => True) (fun _ => False) rfl rfl ?aP (fun _ hk => hk.elim) ?aF ?aO ?aB ?aS ?aL ?_;(case aP => exact k78_mkM _ _ _ (⟨(rd_T47 l0_0 x9_1).f0, t177⟩ : S78));(case aB => exact eB);(case aF => exact (fun _ _ => trivial));(case aO => exact (rK HO_3));(case aS => exact (below_size eB));(case aL => have := LMc8.out;omega)
              intro v179 w15 ho hb hg hat
              rw [← Ny178.out] at ho;have n0_ := Aside0.mk (blk_grown (g := gb174) (o := .cells #[.slice (some ad175) l0_0.length c0_0] 24 (0, 0)) kK hg (Kd.R_ne HO_3.out BK174.out (by decide)));have n1_ := Aside0.mk (blk_grown (g := gb176) (o := .cells #[.int .i64 ((rd_T47 l0_0 x9_1).f0), .slice A175_1 ((rd_T47 l0_0 x9_1).f1).length c175_1, .slice A175_2 ((rd_T47 l0_0 x9_1).f2).length c175_2] 47 (0, 0)) kK hg (Kd.R_ne HO_3.out BK176.out (by decide)));have n2_ := Aside0.mk (hb);have n3_ := Aside0.mk (ho);clear BK174;clear BK176;clear HB;clear HO_3;have BK174 := n0_;have BK176 := n1_;have HB := n2_;have HO180 := n3_;clear n0_ n1_ n2_ n3_;clear ho hb hg hat;refine hK.out _ _ ⟨(blk_cell BK176.out 0).trans rfl, (blk_cell BK176.out 1).trans rfl, (blk_cell BK176.out 2).trans rfl⟩ (fun hHeld => ?_);clear hK K;refine nmA (some 20) ?_;refine pA 8 3 (mb 9 511) HT_ rfl rfl ?_;refine done_ (done_of HT_.out (by kernel_rfl)) ?_
              try go_wp2
              go_roundg k1
              case measure => have := HK1.out;omega
              case rel => exact ⟨(y178), (wrap64 (x9_1 + 1)), (by first|rfl|(simp only [i64_w, i32_w];done)|(simp only [i64_w, i32_w];rfl)|(simp;done)|(simp [*];done)), H', ⟨by have := HK1.out;omega⟩, ⟨by (with_reducible repeat first|apply rA|apply rN|apply rD);exact HO180.out⟩, ⟨kK⟩, ⟨eB⟩⟩
            · rw [if_neg c8] at H;exact absurd H (by simp)
          · rw [if_neg c6] at H;exact absurd H (by simp)
        · rw [if_neg c5] at H;exact absurd H (by simp)
      · rw [if_neg c4] at H;have c4b0 : decide (x9_1 < (l0_0.length : Int)) = false := decide_eq_false c4;clear c4;obtain rfl := Option.some.inj H
        go_wp2
        go_ret
        exact ⟨_, rW, by (with_reducible repeat first|apply rA|apply rN|apply rD);exact HO_3.out, eB⟩

/-! ### slices_Clone_string_string: function 39 -/
def slices_Clone_string_string.f (l0 : List ByteArray) : Option (List ByteArray) :=  if l0.length ≤ 8796093022208 then some l0 else none
theorem slices_Clone_string_string.calls (A0 : Option Addr) (c0 : Nat) (l0 : List ByteArray) (r : List ByteArray) (w : World) (hr0 : Kd.C Kd.string w A0 l0.length l0) (hc0 : l0.length ≤ c0) (h : slices_Clone_string_string.f l0 = some r) :
    Calls Try.prog 39 #[.slice A0 l0.length c0] w fun e w' => ∃ v0_ : Value, e = .returned (v0_) ∧ Kd.R Kd.string 9 w' w.heap.size (fun _ => True) v0_ r ∧ Below w.heap.size w w' := by
  replace h : (if l0.length ≤ 8796093022208 then some l0 else none) = some r := h
  by_cases hb : l0.length ≤ 8796093022208
  · rw [if_pos hb] at h
    obtain rfl := Option.some.inj h
    cases A0 with
    | none =>
      have hl : l0 = [] := by
        have := (Kd.reads_of_C (enc := Value.string) (d := ByteArray.empty) (h1 := fun _ => rfl) hr0).2.2
        cases l0 with
        | nil => rfl
        | cons a r => obtain ⟨ad, e, _⟩ := this (by simp); cases e
      subst hl
      refine (Try.slices_Clone_string_nil 0 c0 w).mono fun e w' ⟨he, hw⟩ => ⟨_, he, Kd.R_nil _ _ _ _ _, by rw [hw]; exact Below.refl _ _⟩
    | some a =>
      by_cases h0 : l0.length = 0
      · have hl : l0 = [] := List.eq_nil_of_length_eq_zero h0
        subst hl
        refine (Try.slices_Clone_string_zero a c0 w).mono fun e w' ⟨v', he, ho, _, hbel⟩ => ⟨v', he, Kd.R_of_own (enc := Value.string) (h1 := fun _ => rfl) (xs := []) ho (fun _ _ => trivial), hbel⟩
      · obtain ⟨ad, e, hc⟩ := (Kd.reads_of_C (enc := Value.string) (d := ByteArray.empty) (h1 := fun _ => rfl) hr0).2.2 (by omega)
        obtain rfl := Option.some.inj e
        obtain ⟨b, off, f⟩ := a
        obtain rfl : f = none := by
          have := hc 0 (by omega)
          cases f with
          | none => rfl
          | some s =>
            unfold Addr.add World.cell? at this
            rw [if_pos rfl] at this
            simp at this
            split at this <;> simp at this
        refine (Try.slices_Clone_string b off l0.length c0 l0 w (Nat.le_refl _) (by omega) ?_).mono fun e w' ⟨v', he, ho, _, hbel⟩ => ⟨v', he, Kd.R_of_own (enc := Value.string) (h1 := fun _ => rfl) (xs := l0) (by rw [List.take_length] at ho; exact ho) (fun _ _ => trivial), hbel⟩
        intro j hj
        have := hc j hj
        have e : (⟨b, off, none⟩ : Addr).add j = ⟨b, off + j, none⟩ := by unfold Addr.add; split <;> simp_all
        rw [e] at this
        exact this
  · rw [if_neg hb] at h; cases h


/-! ### textpatch_Moved: function 65 -/
def textpatch_Moved.f (a0_0 : Int) (l0_1 : List ByteArray) (l0_2 : List ByteArray) (a1 : Int) : Option (Int × List ByteArray × List ByteArray) := (slices_Clone_string_string.f l0_1).bind fun t183 => ((slices_Clone_string_string.f l0_2).bind fun t186 => (some (a1, t183, t186)))
def textpatch_Moved.T1 : Bool × List (List Nat × List Nat) := (true, [([], []), ([], []), ([1], [1]), ([2], [2]), ([], []), ([4], [4]), ([5, 3], [5]), ([0, 3, 6], [0, 3, 6]), ([7, 6, 0, 1, 2, 3, 4, 5, 6, 7], [7])])
def textpatch_Moved.B1 : List Nat := [0, 0, 2, 6, 0, 16, 62, 127, 255]
theorem textpatch_Moved.tab1 : rtab .any (opsOf Try.f65 1) = textpatch_Moved.T1 := by kernel_rfl
theorem textpatch_Moved.bits1 : waitsOk textpatch_Moved.T1.2 textpatch_Moved.B1 = true := by kernel_rfl
set_option maxHeartbeats 8000000 in
set_option maxRecDepth 100000 in
theorem textpatch_Moved.calls (a0_0 : Int) (A0_1 : Option Addr) (c0_1 : Nat) (l0_1 : List ByteArray) (A0_2 : Option Addr) (c0_2 : Nat) (l0_2 : List ByteArray) (a1 : Int) (r1 : Int) (r2 : List ByteArray) (r3 : List ByteArray) (w : World) (hr0_1 : Kd.C Kd.string w A0_1 l0_1.length l0_1) (hc0_1 : l0_1.length ≤ c0_1) (hr0_2 : Kd.C Kd.string w A0_2 l0_2.length l0_2) (hc0_2 : l0_2.length ≤ c0_2) (h : textpatch_Moved.f a0_0 l0_1 l0_2 a1 = some (r1, r2, r3)) :
    Calls Try.prog 65 #[.agg #[.int .i64 a0_0, .slice A0_1 l0_1.length c0_1, .slice A0_2 l0_2.length c0_2], .int .i64 a1] w fun e w' => ∃ v1_ v2_ : Value, e = .returned (.agg #[.int .i64 r1, v1_, v2_]) ∧ Kd.R Kd.string 9 w' w.heap.size (fun k_ => some k_ ≠ (v2_ : Value).ownBlock) v1_ r2 ∧ Kd.R Kd.string 9 w' w.heap.size (fun k_ => some k_ ≠ (v1_ : Value).ownBlock) v2_ r3 ∧ Below w.heap.size w w' := by
  have hu47 := Try.underlying47;have HR0_1 := Aside0.mk hr0_1;have HC0_1 := Aside0.mk hc0_1;clear hr0_1 hc0_1;have HR0_2 := Aside0.mk hr0_2;have HC0_2 := Aside0.mk hc0_2;clear hr0_2 hc0_2;have HB := Aside0.mk (Below.refl w.heap.size w);have H : ((slices_Clone_string_string.f l0_1).bind fun t183 => ((slices_Clone_string_string.f l0_2).bind fun t186 => (some (a1, t183, t186)))) = some (r1, r2, r3) := h;clear h;replace H := Option.bind_eq_some_iff.mp H;obtain ⟨t183, A30, H⟩ := H;replace H : ((slices_Clone_string_string.f l0_2).bind fun t186 => (some (a1, t183, t186))) = some (r1, r2, r3) := H;have A3 := Aside0.mk A30;clear A30;replace H := Option.bind_eq_some_iff.mp H;obtain ⟨t186, A40, H⟩ := H;replace H : (some (a1, t183, t186)) = some (r1, r2, r3) := H;have A4 := Aside0.mk A40;clear A40;simp only [Option.some.injEq, Prod.mk.injEq] at H;obtain ⟨rfl, rfl, rfl⟩ := H
  go_enter Try.func65, Try.ntmps65
  try go_wp2_with (first|((with_reducible refine gate_dst (N := 2) rfl ?_);refine bE 2 #[.int .i64 a0_0, .slice A0_1 l0_1.length c0_1, .slice A0_2 l0_2.length c0_2] 47 ?_;intro gb181 hg w5 hbox hb;have BK181 := Aside0.mk (hbox);have GW181 := gBe HB hg;have GE181 := gBe HB hg;replace HB := sBe HB hb;clear hb hbox hg)|((with_reducible refine gate_dst (N := 4) rfl ?_);refine bE 4 #[.int .i64 0, .slice none 0 0, .slice none 0 0] 47 ?_;intro gb182 hg w6 hbox hb;have BK182 := Aside0.mk (hbox);have GW182 := gBe HB hg;have GE182 := gBe HB hg;have NB181_182 := nL BK181 hg;have NB182_181 := nG BK181 hg;replace BK181 := lJ BK181 hb;replace HB := sBe HB hb;clear hb hbox hg))
  replace BK181 := Aside0.mk (blk_drew BK181.out);replace BK182 := Aside0.mk (blk_drew BK182.out);replace HB := Aside0.mk (below_drew1 HB.out);refine start_ (n := 9) (S := fun w' => w'.cell? ⟨gb181, 0, none⟩ = some (.int .i64 a0_0) ∧ w'.cell? ⟨gb181, 1, none⟩ = some (.slice A0_1 l0_1.length c0_1) ∧ w'.cell? ⟨gb181, 2, none⟩ = some (.slice A0_2 l0_2.length c0_2)) (ds := []) (mb 9 0) (by kernel_rfl) rfl (by kernel_rfl) ⟨(blk_cell BK181.out 0).trans rfl, (blk_cell BK181.out 1).trans rfl, (blk_cell BK181.out 2).trans rfl⟩ (fun hHeld => ?_);refine with_tabW textpatch_Moved.tab1 textpatch_Moved.bits1 (fun HT_ HW_ => ?_);generalize w6.drew = w7 at BK181 BK182 HB hHeld ⊢;refine pA 0 5 (mb 9 1) HT_ rfl rfl ?_;refine pA 1 6 (mb 9 3) HT_ rfl rfl ?_;refine pA 4 9 (mb 9 19) HT_ rfl rfl ?_;refine tA 2 7 (mb 9 23) HT_ HW_ hHeld rfl rfl (by rintro w' ⟨s0, s1, s2⟩;go_simp;with_reducible rfl) ?_;refine tA 5 10 (mb 9 55) HT_ HW_ hHeld rfl rfl (by rintro w' ⟨s0, s1, s2⟩;go_simp;with_reducible rfl) ?_;refine one_ (i := 3) (N := some 8) (mb 9 63) rfl rfl (one_of HT_.out (by kernel_rfl)) (by decide) (fun K hK => ?_);refine goes_ Try.func39 (by kernel_rfl) rfl #[.slice A0_1 l0_1.length c0_1] (by rfl) rfl rfl mA ?_
  with_reducible refine (slices_Clone_string_string.calls _ _ l0_1 t183 _ ?side1 ?side2 A3.out).mono ?_
  (case side1 => exact cBe HR0_1);(case side2 => exact HC0_1.out)
  rintro e w8 ⟨v184, rfl, ho0, hb⟩
  refine ⟨_, rfl, ?_⟩;have HO185 := Aside0.mk (Kd.R_lower ho0 (below_size eB));replace BK181 := lJ BK181 hb;replace BK182 := lJ BK182 hb;replace HB := sBe HB hb;(try clear hb ho0);refine hK.out _ _ ⟨(blk_cell BK181.out 0).trans rfl, (blk_cell BK181.out 1).trans rfl, (blk_cell BK181.out 2).trans rfl⟩ (fun hHeld => ?_);clear hK K;refine nmA (some 8) ?_;refine one_ (i := 6) (N := some 11) (mb 9 127) rfl rfl (one_of HT_.out (by kernel_rfl)) (by decide) (fun K hK => ?_);refine goes_ Try.func39 (by kernel_rfl) rfl #[.slice A0_2 l0_2.length c0_2] (by rfl) rfl rfl mA ?_
  with_reducible refine (slices_Clone_string_string.calls _ _ l0_2 t186 _ ?side1 ?side2 A4.out).mono ?_
  (case side1 => exact cBe HR0_2);(case side2 => exact HC0_2.out)
  rintro e w9 ⟨v187, rfl, ho0, hb⟩
  refine ⟨_, rfl, ?_⟩;have HO188 := Aside0.mk (Kd.R_lower (Kd.R_new' ho0 (Kd.R_lt (rK HO185))) (below_size eB));replace HO185 := Aside0.mk (Kd.R_elder' (rK HO185) (Kd.R_base ho0) hb);replace BK181 := lJ BK181 hb;replace BK182 := lJ BK182 hb;replace HB := sBe HB hb;(try clear hb ho0);obtain ⟨Ao10, co10, eo10⟩ := Kd.R_slice HO188.out
  (first|subst eo10|(injection eo10 with f1_ f2_ f3_;have f4_ := f1_.symm;have f5_ := f3_.symm;clear f1_ f2_ f3_;subst f4_;subst f5_))
  obtain ⟨Ao11, co11, eo11⟩ := Kd.R_slice HO185.out
  (first|subst eo11|(injection eo11 with f1_ f2_ f3_;have f4_ := f1_.symm;have f5_ := f3_.symm;clear f1_ f2_ f3_;subst f4_;subst f5_))
  refine hK.out _ _ ⟨(blk_cell BK181.out 0).trans rfl, (blk_cell BK181.out 1).trans rfl, (blk_cell BK181.out 2).trans rfl⟩ (fun hHeld => ?_);clear hK K;refine nmA (some 11) ?_;refine pA 7 12 (mb 9 255) HT_ rfl rfl ?_;refine one_ (i := 8) (N := none) (mb 9 511) rfl rfl (one_of HT_.out (by kernel_rfl)) (by decide) (fun K hK => ?_);have hs12 : w9.cell? ⟨gb182, 0, none⟩ = some (.int .i64 0) := (blk_cell BK182.out 0).trans rfl;have hfs12 := blk_frozen BK182.out 0;have := NB181_182.out;have := NB182_181.out;have hs13 : w9.cell? ⟨gb182, 1, none⟩ = some (.slice none 0 0) := (blk_cell BK182.out 1).trans rfl;have hfs13 := blk_frozen BK182.out 1;have := NB181_182.out;have := NB182_181.out;have hs14 : w9.cell? ⟨gb182, 2, none⟩ = some (.slice none 0 0) := (blk_cell BK182.out 2).trans rfl;have hfs14 := blk_frozen BK182.out 2;have := NB181_182.out;have := NB182_181.out;refine skip_ (w1 := ?_) (by rfl) rfl ?_ ?_;rotate_left
  · go_simp
    rfl
  refine hK.out _ _ ⟨((cell_far (p := ⟨gb182, _, none⟩) NB181_182.out _).trans (((cell_far (p := ⟨gb182, _, none⟩) NB181_182.out _).trans (((cell_far (p := ⟨gb182, _, none⟩) NB181_182.out _).trans (hHeld.1)))))), ((cell_far (p := ⟨gb182, _, none⟩) NB181_182.out _).trans (((cell_far (p := ⟨gb182, _, none⟩) NB181_182.out _).trans (((cell_far (p := ⟨gb182, _, none⟩) NB181_182.out _).trans (hHeld.2.1)))))), ((cell_far (p := ⟨gb182, _, none⟩) NB181_182.out _).trans (((cell_far (p := ⟨gb182, _, none⟩) NB181_182.out _).trans (((cell_far (p := ⟨gb182, _, none⟩) NB181_182.out _).trans (hHeld.2.2))))))⟩ (fun hHeld => ?_);clear hK K;refine done_ (done_of HT_.out (by kernel_rfl)) ?_
  try go_wp2
  refine bodyPost_ret (results_cell_row rfl _ _ gb182 47 #[.int .i64 a1, .slice Ao11 t183.length co11, .slice Ao10 t186.length co10] (0, 0) _ rfl kK Try.underlying47 rfl (by kernel_rfl)) rfl ?_;exact ⟨_, _, rW, by (with_reducible repeat first|apply rA|apply rN|apply rD);exact Kd.R_mono (Kd.R_far (p := ⟨gb182, 2, none⟩) (Kd.R_far (p := ⟨gb182, 1, none⟩) (Kd.R_far (p := ⟨gb182, 0, none⟩) (Kd.R_types HO185.out BK182.out (by decide)) (fun _ hk => hk.2) (.int .i64 a1)) (fun _ hk => hk.2) (.slice Ao11 t183.length co11)) (fun _ hk => hk.2) (.slice Ao10 t186.length co10)) (fun _ hk => hk.1.2), by (with_reducible repeat first|apply rA|apply rN|apply rD);exact Kd.R_mono (Kd.R_far (p := ⟨gb182, 2, none⟩) (Kd.R_far (p := ⟨gb182, 1, none⟩) (Kd.R_far (p := ⟨gb182, 0, none⟩) (Kd.R_types HO188.out BK182.out (by decide)) (fun _ hk => hk.2) (.int .i64 a1)) (fun _ hk => hk.2) (.slice Ao11 t183.length co11)) (fun _ hk => hk.2) (.slice Ao10 t186.length co10)) (fun _ hk => hk.1.2), eB⟩

end Go.Proofs.Ytdnnkhogpobjbaa.PU
