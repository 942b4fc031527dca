/- Printed by a program of this session out of the translation: Lean functions for Go functions, and proofs that the Go functions answer the same. -/
import Derived.Test.YtdnnkhogpobjbaaPM0
import Derived.Test.YtdnnkhogpobjbaaPM1
import Derived.Test.YtdnnkhogpobjbaaPM2
namespace Go.Proofs.Ytdnnkhogpobjbaa.PM
open Go.RowKit Go.Proofs.Ytdnnkhogpobjbaa.Pre Go.Proofs.YtdnnkhogpobjbaaW.PrintWords Go.Proofs.YtdnnkhogpobjbaaW.PrintLast Go.Proofs.YtdnnkhogpobjbaaW.PrintMore
attribute [local go_sem] max2_int min2_int max_two min_two max_three min_three max_four min_four   -- for this text's walks alone
set_option linter.unusedVariables false
set_option linter.unusedSimpArgs false

attribute [local go_sem high] eqA27
/-! ### textpatch_Apply_0: function 15 -/
def textpatch_Apply_0.l0 : Nat → List ByteArray → List ByteArray → Int → List (S47) → Int → Int → Option (List ByteArray × Int × Int)
  | 0, _, _, _, _, _, _ => none
  | k + 1, x1, x8, x9, x25, x26, x27 => if x27 < x26 then (if 0 ≤ x27 then (if x27 < (x25.length : Int) then ((textpatch_End.f ((rd_T47 x25 x27).f0) ((rd_T47 x25 x27).f1) ((rd_T47 x25 x27).f2)).bind fun t133 => (if t133 > (x1.length : Int) then (some (([] : List ByteArray), 19, x27)) else ((textpatch_End.f ((rd_T47 x25 x27).f0) ((rd_T47 x25 x27).f1) ((rd_T47 x25 x27).f2)).bind fun t134 => (if 0 ≤ ((rd_T47 x25 x27).f0) then (if ((rd_T47 x25 x27).f0) ≤ t134 then (if t134 ≤ (x1.length : Int) then ((slices_Equal_string_string.f ((x1.take (t134 : Int).toNat).drop (((rd_T47 x25 x27).f0) : Int).toNat) ((rd_T47 x25 x27).f1)).bind fun t136 => (if t136 = true then (if 0 ≤ x9 then (if x9 ≤ ((rd_T47 x25 x27).f0) then (if ((rd_T47 x25 x27).f0) ≤ (x1.length : Int) then (if x8.length + ((x1.take (((rd_T47 x25 x27).f0) : Int).toNat).drop (x9 : Int).toNat).length < 8796093022208 then ((some (x8 ++ ((x1.take (((rd_T47 x25 x27).f0) : Int).toNat).drop (x9 : Int).toNat) : List ByteArray)).bind fun y138 => (if y138.length + ((rd_T47 x25 x27).f2).length < 8796093022208 then ((textpatch_End.f ((rd_T47 x25 x27).f0) ((rd_T47 x25 x27).f1) ((rd_T47 x25 x27).f2)).bind fun t144 => (textpatch_Apply_0.l0 k x1 (y138 ++ ((rd_T47 x25 x27).f2)) t144 x25 x26 (wrap64 (x27 + 1)))) else (none))) else (none)) else (none)) else (none)) else (none)) else (some (([] : List ByteArray), 19, x27)))) else (none)) else (none)) else (none))))) else (none)) else (none)) else (if 0 ≤ x9 then (if x9 ≤ (x1.length : Int) then (if x8.length + (x1.drop (x9 : Int).toNat).length < 8796093022208 then ((some (x8 ++ (x1.drop (x9 : Int).toNat) : List ByteArray)).bind fun y128 => (if (y128.length : Int) > 120 then (some (([] : List ByteArray), 10, (-1))) else (some (y128, 0, 0)))) else (none)) else (none)) else (none))
def textpatch_Apply_0.f (k : Nat) (l0_0 : List (S47)) (l1 : List ByteArray) : Option (List ByteArray × Int × Int) := (textpatch_Validate.f l0_0).bind fun bt123 => (if (!(bt123.1 == 0) || (!(bt123.2 == 0))) = true then (some (([] : List ByteArray), bt123.1, bt123.2)) else ((lines_Code.f l1).bind fun t126 => (if t126 = 0 then (textpatch_Apply_0.l0 k l1 ([] : List ByteArray) 0 l0_0 (l0_0.length : Int) 0) else (some (([] : List ByteArray), t126, (-2))))))
theorem textpatch_Apply_0.mono_l : ∀ k, (∀ y0 y1 y2 y3 y4 y5, LeO (textpatch_Apply_0.l0 k y0 y1 y2 y3 y4 y5) (textpatch_Apply_0.l0 (k + 1) y0 y1 y2 y3 y4 y5))
  | 0 => fun _ _ _ _ _ _ r h => by simp [textpatch_Apply_0.l0] at h
  | k + 1 => by
    have ih0 := textpatch_Apply_0.mono_l k
    · intro y0 y1 y2 y3 y4 y5
      unfold textpatch_Apply_0.l0
      repeat' first
      | (with_reducible exact ih0 _ _ _ _ _ _)
      | (with_reducible exact LeO.refl _)
      | (with_reducible exact LeO.none _)
      | (with_reducible refine LeO.ite ?_ ?_)
      | (with_reducible refine LeO.bind ?_ (fun _ => ?_))
      | exact ih0 _ _ _ _ _ _
      | exact LeO.none _
      | refine LeO.ite ?_ ?_
      | refine LeO.bind ?_ (fun _ => ?_)
theorem textpatch_Apply_0.mono : ∀ a0 a1 k, LeO (textpatch_Apply_0.f k a0 a1) (textpatch_Apply_0.f (k + 1) a0 a1) := by
  intro a0 a1 k
  have ih0 := textpatch_Apply_0.mono_l k
  unfold textpatch_Apply_0.f
  repeat' first
      | (with_reducible exact ih0 _ _ _ _ _ _)
      | (with_reducible exact LeO.refl _)
      | (with_reducible exact LeO.none _)
      | (with_reducible refine LeO.ite ?_ ?_)
      | (with_reducible refine LeO.bind ?_ (fun _ => ?_))
      | exact ih0 _ _ _ _ _ _
      | exact LeO.none _
      | refine LeO.ite ?_ ?_
      | refine LeO.bind ?_ (fun _ => ?_)
def textpatch_Apply_0.T12 : Bool × List (List Nat × List Nat) := (true, [([], []), ([0], [0]), ([], []), ([2], [2]), ([1, 3], [1, 3]), ([4, 1], [4]), ([5], [5]), ([5], [5]), ([7, 5], [5, 7]), ([5], [5]), ([9, 5, 5], [5, 9]), ([6, 8, 10, 5], [5, 6, 8, 10]), ([5], [5]), ([12, 5], [5, 12]), ([11, 13, 10, 5], [5, 11, 13]), ([14, 5], [5, 14]), ([5, 15], [5, 15])])
def textpatch_Apply_0.B12 : List Nat := [0, 1, 0, 4, 15, 31, 63, 63, 191, 63, 575, 2047, 63, 4159, 16383, 32767, 65535]
theorem textpatch_Apply_0.tab12 : rtab .any (opsOf Try.f15 12) = textpatch_Apply_0.T12 := by kernel_rfl
theorem textpatch_Apply_0.bits12 : waitsOk textpatch_Apply_0.T12.2 textpatch_Apply_0.B12 = true := by kernel_rfl
def textpatch_Apply_0.T14 : Bool × List (List Nat × List Nat) := (true, [([], []), ([], []), ([], []), ([], []), ([3], [3]), ([1, 2, 4], [1, 2, 4]), ([0, 5], [0, 5]), ([], []), ([7], [7]), ([6, 8, 6], [6, 8]), ([9, 9, 0, 1, 2, 3, 4, 5, 6, 7, 8, 9], [0, 9])])
def textpatch_Apply_0.B14 : List Nat := [0, 0, 0, 0, 8, 30, 63, 0, 128, 511, 1023]
theorem textpatch_Apply_0.tab14 : rtab .any (opsOf Try.f15 14) = textpatch_Apply_0.T14 := by kernel_rfl
theorem textpatch_Apply_0.bits14 : waitsOk textpatch_Apply_0.T14.2 textpatch_Apply_0.B14 = true := by kernel_rfl
set_option maxHeartbeats 8000000 in
set_option maxRecDepth 100000 in
theorem textpatch_Apply_0.calls (k : Nat) (A0_0 : Option Addr) (c0_0 : Nat) (l0_0 : List (S47)) (A1 : Option Addr) (c1 : Nat) (l1 : List ByteArray) (r1 : List ByteArray) (r2 : Int) (r3 : Int) (w : World) (hr0_0 : Kd.C k47 w A0_0 l0_0.length l0_0) (hc0_0 : l0_0.length ≤ c0_0) (hr1 : Kd.C Kd.string w A1 l1.length l1) (hc1 : l1.length ≤ c1) (h : textpatch_Apply_0.f k l0_0 l1 = some (r1, r2, r3)) :
    Calls Try.prog 15 #[.agg #[.slice A0_0 l0_0.length c0_0], .slice A1 l1.length c1] w fun e w' => ∃ v0_ : Value, e = .returned (.tuple #[v0_, .agg #[.int .i64 r2, .int .i64 r3]]) ∧ Kd.R Kd.string 9 w' w.heap.size (fun _ => True) v0_ r1 ∧ Below w.heap.size w w' := by
  have hu24 := Try.underlying24;have hu27 := Try.underlying27;have hu47 := Try.underlying47;have HR0_0 := Aside0.mk hr0_0;have HC0_0 := Aside0.mk hc0_0;clear hr0_0 hc0_0;have HR1 := Aside0.mk hr1;have HC1 := Aside0.mk hc1;clear hr1 hc1;have HB := Aside0.mk (Below.refl w.heap.size w);have H : ((textpatch_Validate.f l0_0).bind fun bt123 => (if (!(bt123.1 == 0) || (!(bt123.2 == 0))) = true then (some (([] : List ByteArray), bt123.1, bt123.2)) else ((lines_Code.f l1).bind fun t126 => (if t126 = 0 then (textpatch_Apply_0.l0 k l1 ([] : List ByteArray) 0 l0_0 (l0_0.length : Int) 0) else (some (([] : List ByteArray), t126, (-2))))))) = some (r1, r2, r3) := h;clear h;replace H := Option.bind_eq_some_iff.mp H;obtain ⟨⟨t123, t124⟩, A30, H⟩ := H;replace H : (if (!(t123 == 0) || (!(t124 == 0))) = true then (some (([] : List ByteArray), t123, t124)) else ((lines_Code.f l1).bind fun t126 => (if t126 = 0 then (textpatch_Apply_0.l0 k l1 ([] : List ByteArray) 0 l0_0 (l0_0.length : Int) 0) else (some (([] : List ByteArray), t126, (-2)))))) = some (r1, r2, r3) := H;have A3 := Aside0.mk A30;clear A30
  by_cases c4 : (!(t123 == 0) || (!(t124 == 0))) = true
  · rw [if_pos c4] at H;have c4b0 : (!(t123 == 0) || (!(t124 == 0))) = true := c4;clear c4;simp only [Option.some.injEq, Prod.mk.injEq] at H;obtain ⟨rfl, rfl, rfl⟩ := H
    go_enter Try.func15, Try.ntmps15
    try go_wp2_with (first|((with_reducible refine gate_dst (N := 2) rfl ?_);refine bE 2 #[.slice A0_0 l0_0.length c0_0] 24 ?_;intro gb121 hg w5 hbox hb;have BK121 := Aside0.mk (hbox);have GW121 := gBe HB hg;have GE121 := gBe HB hg;replace HB := sBe HB hb;clear hb hbox hg)|((with_reducible refine gate_dst (N := 5) rfl ?_);refine bE 5 #[.int .i64 0, .int .i64 0] 27 ?_;intro gb122 hg w6 hbox hb;have BK122 := Aside0.mk (hbox);have GW122 := gBe HB hg;have GE122 := gBe HB hg;have NB121_122 := nL BK121 hg;have NB122_121 := nG BK121 hg;replace BK121 := lJ BK121 hb;replace HB := sBe HB hb;clear hb hbox hg;have hnb7 := NB121_122.out;have hnc7 := NB122_121.out;have hcz8_0 := hC BK121 0 (.slice A0_0 l0_0.length c0_0);have hfz8_0 := blk_frozen BK121.out 0)|((with_reducible refine gate_callee (f := 19) rfl ?_);refine goesL_ (some 13) rfl rfl Try.func19 (by kernel_rfl) rfl #[.agg #[.slice A0_0 l0_0.length c0_0]] rfl mA ?_;(with_reducible refine (textpatch_Validate.calls _ _ l0_0 t123 t124 _ ?side1 ?side2 A3.out).mono ?_);(case side1 => exact cBe HR0_0);(case side2 => exact HC0_0.out);rintro e w9 ⟨rfl, hb⟩;refine ⟨_, rfl, ?_⟩;replace BK121 := lJ BK121 hb;replace BK122 := lJ BK122 hb;replace HB := sBe HB hb;(try clear hb);(try clear hb2);(try clear hk);(try clear hi))|((with_reducible refine gate_dst (N := 6) rfl ?_);refine bE 6 #[.int .i64 0, .int .i64 0] 27 ?_;intro gb125 hg w10 hbox hb;have BK125 := Aside0.mk (hbox);have GW125 := gBe HB hg;have GE125 := gBe HB hg;have NB121_125 := nL BK121 hg;have NB125_121 := nG BK121 hg;have NB122_125 := nL BK122 hg;have NB125_122 := nG BK122 hg;replace BK121 := lJ BK121 hb;replace BK122 := lJ BK122 hb;replace HB := sBe HB hb;clear hb hbox hg;have hnb11 := NB125_121.out;have hnc11 := NB121_125.out;have hnb12 := NB125_122.out;have hnc12 := NB122_125.out;have hcz13_0 := hC BK125 0 (.int .i64 0);have hcz13_1 := hC BK125 1 (.int .i64 0);have hfz13_0 := blk_frozen BK125.out 0;have hfz13_1 := blk_frozen BK125.out 1))
    have n0_ : Aside0 (((w10.setCell ⟨gb125, 0, none⟩ (.int .i64 t123)).setCell ⟨gb125, 1, none⟩ (.int .i64 t124)).heap[gb121]? = some (.cells #[.slice A0_0 l0_0.length c0_0] 24 (0, 0))) := ⟨kK⟩;have n1_ : Aside0 (((w10.setCell ⟨gb125, 0, none⟩ (.int .i64 t123)).setCell ⟨gb125, 1, none⟩ (.int .i64 t124)).heap[gb122]? = some (.cells #[.int .i64 0, .int .i64 0] 27 (0, 0))) := ⟨kK⟩;have n2_ : Aside0 (((w10.setCell ⟨gb125, 0, none⟩ (.int .i64 t123)).setCell ⟨gb125, 1, none⟩ (.int .i64 t124)).heap[gb125]? = some (.cells #[.int .i64 t123, .int .i64 t124] 27 (0, 0))) := ⟨kK⟩;have n3_ : Aside0 (Below w.heap.size w ((w10.setCell ⟨gb125, 0, none⟩ (.int .i64 t123)).setCell ⟨gb125, 1, none⟩ (.int .i64 t124))) := ⟨eB⟩;(try clear BK121);(try clear BK122);(try clear BK125);(try clear HB);generalize ((w10.setCell ⟨gb125, 0, none⟩ (.int .i64 t123)).setCell ⟨gb125, 1, none⟩ (.int .i64 t124)) = w14 at n0_ n1_ n2_ n3_ ⊢;have BK121 := n0_;have BK122 := n1_;have BK125 := n2_;have HB := n3_;clear n0_ n1_ n2_ n3_;replace BK121 := Aside0.mk (blk_drew BK121.out);replace BK122 := Aside0.mk (blk_drew BK122.out);replace BK125 := Aside0.mk (blk_drew BK125.out);replace HB := Aside0.mk (below_drew1 HB.out);refine start_ (n := 3) (S := fun w' => w'.cell? ⟨gb125, 0, none⟩ = some (.int .i64 t123) ∧ w'.cell? ⟨gb125, 1, none⟩ = some (.int .i64 t124)) (ds := []) #[false, false, false] (by kernel_rfl) rfl rfl ⟨(blk_cell BK125.out 0).trans rfl, (blk_cell BK125.out 1).trans rfl⟩ (fun hHeld => ?_);generalize w14.drew = w15 at BK121 BK122 BK125 HB hHeld ⊢;refine pB 1 4 (mb 3 2) rfl rfl ?_;refine tB 0 17 (mb 3 3) hHeld rfl rfl (by rintro w' ⟨s0, s1⟩;go_simp;with_reducible rfl) ?_;refine one_ (i := 2) (N := none) #[true, true, true] rfl rfl (by kernel_rfl) (by decide) (fun K hK => ?_);have hs16 : w15.cell? ⟨gb122, 0, none⟩ = some (.int .i64 0) := (blk_cell BK122.out 0).trans rfl;have hfs16 := blk_frozen BK122.out 0;have hns16_0 := NB121_122.out;have hns16_2 := NB125_122.out;have hms16_0 := NB122_121.out;have hms16_2 := NB122_125.out;have hs17 : w15.cell? ⟨gb122, 1, none⟩ = some (.int .i64 0) := (blk_cell BK122.out 1).trans rfl;have hfs17 := blk_frozen BK122.out 1;have hns17_0 := NB121_122.out;have hns17_2 := NB125_122.out;have hms17_0 := NB122_121.out;have hms17_2 := NB122_125.out;refine skip_ (w1 := ?_) (by rfl) rfl ?_ ?_;rotate_left
    · go_simp
      rfl
    refine hK.out _ _ ⟨((cell_far (p := ⟨gb122, _, none⟩) NB125_122.out _).trans (((cell_far (p := ⟨gb122, _, none⟩) NB125_122.out _).trans (hHeld.1)))), ((cell_far (p := ⟨gb122, _, none⟩) NB125_122.out _).trans (((cell_far (p := ⟨gb122, _, none⟩) NB125_122.out _).trans (hHeld.2))))⟩ (fun hHeld => ?_);clear hK K;refine done_ (by kernel_rfl) ?_
    try go_wp2
    refine bodyPost_ret (results_tc rfl _ _ gb122 27 #[.int .i64 t123, .int .i64 t124] (0, 0) _ rfl kK Try.underlying27 rfl (by kernel_rfl)) rfl ?_;exact ⟨_, rW, by first|exact Kd.R_nil _ _ _ _ _|exact Kd.N_nil _ _ _ _ _|exact Kd.V_nil _ _ _ _ _|exact Kd.Q_nil _ _ _ _ _|exact Kd.S_nil _ _ _ _ _, eB⟩
  · rw [if_neg c4] at H;have c4b0 : (!(t123 == 0) || (!(t124 == 0))) = false := (by simpa using c4);clear c4;replace H := Option.bind_eq_some_iff.mp H;obtain ⟨t126, A180, H⟩ := H;replace H : (if t126 = 0 then (textpatch_Apply_0.l0 k l1 ([] : List ByteArray) 0 l0_0 (l0_0.length : Int) 0) else (some (([] : List ByteArray), t126, (-2)))) = some (r1, r2, r3) := H;have A18 := Aside0.mk A180;clear A180
    by_cases c19 : t126 = 0
    · rw [if_pos c19] at H;have c19b0 : (t126 == 0) = true := beq_iff_eq.mpr c19;have c19b1 : (t126 != 0) = false := bne_eq_false_iff_eq.mpr c19;clear c19;have H' := Aside0.mk H;clear H
      go_enter Try.func15, Try.ntmps15
      go_wp2_with (first|((with_reducible refine gate_dst (N := 2) rfl ?_);refine bE 2 #[.slice A0_0 l0_0.length c0_0] 24 ?_;intro gb121 hg w20 hbox hb;have BK121 := Aside0.mk (hbox);have GW121 := gBe HB hg;have GE121 := gBe HB hg;replace HB := sBe HB hb;clear hb hbox hg)|((with_reducible refine gate_dst (N := 5) rfl ?_);refine bE 5 #[.int .i64 0, .int .i64 0] 27 ?_;intro gb122 hg w21 hbox hb;have BK122 := Aside0.mk (hbox);have GW122 := gBe HB hg;have GE122 := gBe HB hg;have NB121_122 := nL BK121 hg;have NB122_121 := nG BK121 hg;replace BK121 := lJ BK121 hb;replace HB := sBe HB hb;clear hb hbox hg;have hnb22 := NB121_122.out;have hnc22 := NB122_121.out;have hcz23_0 := hC BK121 0 (.slice A0_0 l0_0.length c0_0);have hfz23_0 := blk_frozen BK121.out 0)|((with_reducible refine gate_callee (f := 19) rfl ?_);refine goesL_ (some 13) rfl rfl Try.func19 (by kernel_rfl) rfl #[.agg #[.slice A0_0 l0_0.length c0_0]] rfl mA ?_;(with_reducible refine (textpatch_Validate.calls _ _ l0_0 t123 t124 _ ?side1 ?side2 A3.out).mono ?_);(case side1 => exact cBe HR0_0);(case side2 => exact HC0_0.out);rintro e w24 ⟨rfl, hb⟩;refine ⟨_, rfl, ?_⟩;replace BK121 := lJ BK121 hb;replace BK122 := lJ BK122 hb;replace HB := sBe HB hb;(try clear hb);(try clear hb2);(try clear hk);(try clear hi))|((with_reducible refine gate_dst (N := 6) rfl ?_);refine bE 6 #[.int .i64 0, .int .i64 0] 27 ?_;intro gb125 hg w25 hbox hb;have BK125 := Aside0.mk (hbox);have GW125 := gBe HB hg;have GE125 := gBe HB hg;have NB121_125 := nL BK121 hg;have NB125_121 := nG BK121 hg;have NB122_125 := nL BK122 hg;have NB125_122 := nG BK122 hg;replace BK121 := lJ BK121 hb;replace BK122 := lJ BK122 hb;replace HB := sBe HB hb;clear hb hbox hg;have hnb26 := NB125_121.out;have hnc26 := NB121_125.out;have hnb27 := NB125_122.out;have hnc27 := NB122_125.out;have hcz28_0 := hC BK125 0 (.int .i64 0);have hcz28_1 := hC BK125 1 (.int .i64 0);have hfz28_0 := blk_frozen BK125.out 0;have hfz28_1 := blk_frozen BK125.out 1)|((with_reducible refine gate_callee (f := 32) rfl ?_);refine goesL_ (some 19) rfl rfl Try.func32 (by kernel_rfl) rfl #[.slice A1 l1.length c1] rfl mA ?_;(with_reducible refine (lines_Code.calls _ _ l1 t126 _ ?side1 ?side2 A18.out).mono ?_);(case side1 => exact Kd.C_below HR1.out eB);(case side2 => exact HC1.out);rintro e w29 ⟨rfl, hb⟩;refine ⟨_, rfl, ?_⟩;replace BK121 := lJ BK121 hb;replace BK122 := lJ BK122 hb;replace BK125 := lK gb125 27 #[.int .i64 t123, .int .i64 t124] hb;replace HB := sBe HB hb;(try clear hb);(try clear hb2);(try clear hk);(try clear hi);have hcz30_0 := hC BK121 0 (.slice A0_0 l0_0.length c0_0);have hfz30_0 := blk_frozen BK121.out 0))
      go_loopg [8, 9, 27] k (fun kq v8 v9 v27 w' => ∃ (x8_1 : List ByteArray) (x9_1 : Int) (x27_1 : Int) (x123000_1 : Int) (x123001_1 : Int), v9 = .int .i64 x9_1 ∧ v27 = .int .i64 x27_1 ∧ Aside0 (textpatch_Apply_0.l0 kq l1 x8_1 x9_1 l0_0 (l0_0.length : Int) x27_1 = some (r1, r2, r3)) ∧ Aside0 (kq ≤ k) ∧ Aside0 (Kd.R Kd.string 9 w' w.heap.size (fun _ => True) v8 x8_1) ∧ Aside0 (w'.heap[gb121]? = some (.cells #[(.slice A0_0 l0_0.length c0_0)] 24 (0, 0))) ∧ Aside0 (w'.heap[gb122]? = some (.cells #[.int .i64 x123000_1, .int .i64 x123001_1] 27 (0, 0))) ∧ Aside0 (w'.heap[gb125]? = some (.cells #[.int .i64 t123, .int .i64 t124] 27 (0, 0))) ∧ Aside0 (Below w.heap.size w w'))
      case atStart => exact ⟨(([] : List ByteArray)), (0), (0), (0), (0), (by first|rfl|(simp;done)|(simp [*];done)), (by first|rfl|(simp;done)|(simp [*];done)), H', ⟨Nat.le_refl _⟩, ⟨by first|exact Kd.R_nil _ _ _ _ _|exact Kd.N_nil _ _ _ _ _|exact Kd.V_nil _ _ _ _ _|exact Kd.Q_nil _ _ _ _ _|exact Kd.S_nil _ _ _ _ _⟩, ⟨kK⟩, ⟨kK⟩, ⟨kK⟩, ⟨eB⟩⟩
      case round =>
        clear H'
        try clear c1
        try clear c2
        try clear p2
        try clear c3
        try clear c4
        try clear c4b0
        try clear c7
        try clear c11
        try clear c12
        try clear c15
        try clear c19
        try clear c19b0
        try clear c19b1
        try clear c22
        try clear c26
        try clear c27
        try clear hcz13_0
        try clear hcz13_1
        try clear hcz23_0
        try clear hcz28_0
        try clear hcz28_1
        try clear hcz30_0
        try clear hcz8_0
        try clear hfz13_0
        try clear hfz13_1
        try clear hfz23_0
        try clear hfz28_0
        try clear hfz28_1
        try clear hfz30_0
        try clear hfz8_0
        obtain ⟨x8_1, x9_1, x27_1, x123000_1, x123001_1, rfl, rfl, HA, HK1, HO_8, BK121, BK122, BK125, HB⟩ := hrel
        cases gk with
        | zero => exact absurd HA.out (by simp [textpatch_Apply_0.l0])
        | succ k1 =>
          have H := HA.out;clear HA;simp only [textpatch_Apply_0.l0] at H
          by_cases c31 : x27_1 < (l0_0.length : Int)
          · rw [if_pos c31] at H;have c31b0 : decide (x27_1 < (l0_0.length : Int)) = true := decide_eq_true c31;clear c31
            by_cases c32 : 0 ≤ x27_1
            · rw [if_pos c32] at H;have c32b0 : decide (0 ≤ x27_1) = true := decide_eq_true c32;clear c32
              by_cases c33 : x27_1 < (l0_0.length : Int)
              · rw [if_pos c33] at H;have c33b0 : decide (x27_1 < (l0_0.length : Int)) = true := decide_eq_true c33;clear c33;replace H := Option.bind_eq_some_iff.mp H;obtain ⟨t133, A340, H⟩ := H;replace H : (if t133 > (l1.length : Int) then (some (([] : List ByteArray), 19, x27_1)) else ((textpatch_End.f ((rd_T47 l0_0 x27_1).f0) ((rd_T47 l0_0 x27_1).f1) ((rd_T47 l0_0 x27_1).f2)).bind fun t134 => (if 0 ≤ ((rd_T47 l0_0 x27_1).f0) then (if ((rd_T47 l0_0 x27_1).f0) ≤ t134 then (if t134 ≤ (l1.length : Int) then ((slices_Equal_string_string.f ((l1.take (t134 : Int).toNat).drop (((rd_T47 l0_0 x27_1).f0) : Int).toNat) ((rd_T47 l0_0 x27_1).f1)).bind fun t136 => (if t136 = true then (if 0 ≤ x9_1 then (if x9_1 ≤ ((rd_T47 l0_0 x27_1).f0) then (if ((rd_T47 l0_0 x27_1).f0) ≤ (l1.length : Int) then (if x8_1.length + ((l1.take (((rd_T47 l0_0 x27_1).f0) : Int).toNat).drop (x9_1 : Int).toNat).length < 8796093022208 then ((some (x8_1 ++ ((l1.take (((rd_T47 l0_0 x27_1).f0) : Int).toNat).drop (x9_1 : Int).toNat) : List ByteArray)).bind fun y138 => (if y138.length + ((rd_T47 l0_0 x27_1).f2).length < 8796093022208 then ((textpatch_End.f ((rd_T47 l0_0 x27_1).f0) ((rd_T47 l0_0 x27_1).f1) ((rd_T47 l0_0 x27_1).f2)).bind fun t144 => (textpatch_Apply_0.l0 k1 l1 (y138 ++ ((rd_T47 l0_0 x27_1).f2)) t144 l0_0 (l0_0.length : Int) (wrap64 (x27_1 + 1)))) else (none))) else (none)) else (none)) else (none)) else (none)) else (some (([] : List ByteArray), 19, x27_1)))) else (none)) else (none)) else (none)))) = some (r1, r2, r3) := H;have A34 := Aside0.mk A340;clear A340
                by_cases c35 : t133 > (l1.length : Int)
                · rw [if_pos c35] at H;have c35b0 : decide ((l1.length : Int) < t133) = true := decide_eq_true c35;clear c35;simp only [Option.some.injEq, Prod.mk.injEq] at H;obtain ⟨rfl, rfl, rfl⟩ := H;have p131 : 0 ≤ (x27_1 : Int) := dA;have q131 : x27_1 < (l0_0.length : Int) := dA;obtain ⟨ad131, A131_1, c131_1, A131_2, c131_2, e131, hx131_0, hx131_1, hx131_2, hl131_1, hi131_1, hl131_2, hi131_2⟩ := at_T47 HR0_0.out x27_1 p131 q131
                  cases e131
                  replace hx131_0 := (hX HB hx131_0:);replace hx131_1 := (hX HB hx131_1:);replace hx131_2 := (hX HB hx131_2:);have HR131_1 := Aside0.mk hi131_1;have HC131_1 := Aside0.mk hl131_1;clear hi131_1 hl131_1;have HR131_2 := Aside0.mk hi131_2;have HC131_2 := Aside0.mk hl131_2;clear hi131_2 hl131_2;replace p131 := eq_true p131;replace q131 := eq_true q131
                  try go_wp2_with (first|((with_reducible refine gate_dst (N := 11) rfl ?_);refine bE 11 #[.int .i64 0, .slice none 0 0, .slice none 0 0] 47 ?_;intro gb132 hg w36 hbox hb;have BK132 := Aside0.mk (hbox);have GW132 := gBe HB hg;have GE132 := gBe HB hg;have NB121_132 := nL BK121 hg;have NB132_121 := nG BK121 hg;have NB122_132 := nL BK122 hg;have NB132_122 := nG BK122 hg;have NB125_132 := nL BK125 hg;have NB132_125 := nG BK125 hg;replace HO_8 := Aside0.mk (Kd.R_below (rK HO_8) hb);replace BK121 := lJ BK121 hb;replace BK122 := lJ BK122 hb;replace BK125 := lJ BK125 hb;replace HB := sBe HB hb;clear hb hbox hg;have hnb37 := NB132_121.out;have hnc37 := NB121_132.out;have hnb38 := NB132_122.out;have hnc38 := NB122_132.out;have hnb39 := NB132_125.out;have hnc39 := NB125_132.out;have hcz40_0 := hC BK132 0 (.int .i64 0);have hcz40_1 := hC BK132 1 (.slice none 0 0);have hcz40_2 := hC BK132 2 (.slice none 0 0);have hfz40_0 := blk_frozen BK132.out 0;have hfz40_1 := blk_frozen BK132.out 1;have hfz40_2 := blk_frozen BK132.out 2))
                  have n0_ : Aside0 (Kd.R Kd.string 9 (((w36.setCell ⟨gb132, 0, none⟩ (.int .i64 ((rd_T47 l0_0 x27_1).f0))).setCell ⟨gb132, 1, none⟩ (.slice A131_1 ((rd_T47 l0_0 x27_1).f1).length c131_1)).setCell ⟨gb132, 2, none⟩ (.slice A131_2 ((rd_T47 l0_0 x27_1).f2).length c131_2)) w.heap.size (fun _ => True) u8 x8_1) := ⟨by (with_reducible repeat first|apply rA|apply rN|apply rD);exact Kd.R_mono (Kd.R_far (p := ⟨gb132, 2, none⟩) (Kd.R_far (p := ⟨gb132, 1, none⟩) (Kd.R_far (p := ⟨gb132, 0, none⟩) (Kd.R_types HO_8.out BK132.out (by decide)) (fun _ hk => hk.2) (.int .i64 ((rd_T47 l0_0 x27_1).f0))) (fun _ hk => hk.2) (.slice A131_1 ((rd_T47 l0_0 x27_1).f1).length c131_1)) (fun _ hk => hk.2) (.slice A131_2 ((rd_T47 l0_0 x27_1).f2).length c131_2)) (fun _ hk => trivial)⟩;have n1_ : Aside0 ((((w36.setCell ⟨gb132, 0, none⟩ (.int .i64 ((rd_T47 l0_0 x27_1).f0))).setCell ⟨gb132, 1, none⟩ (.slice A131_1 ((rd_T47 l0_0 x27_1).f1).length c131_1)).setCell ⟨gb132, 2, none⟩ (.slice A131_2 ((rd_T47 l0_0 x27_1).f2).length c131_2)).heap[gb121]? = some (.cells #[.slice (some ad131) l0_0.length c0_0] 24 (0, 0))) := ⟨kK⟩;have n2_ : Aside0 ((((w36.setCell ⟨gb132, 0, none⟩ (.int .i64 ((rd_T47 l0_0 x27_1).f0))).setCell ⟨gb132, 1, none⟩ (.slice A131_1 ((rd_T47 l0_0 x27_1).f1).length c131_1)).setCell ⟨gb132, 2, none⟩ (.slice A131_2 ((rd_T47 l0_0 x27_1).f2).length c131_2)).heap[gb122]? = some (.cells #[.int .i64 x123000_1, .int .i64 x123001_1] 27 (0, 0))) := ⟨kK⟩;have n3_ : Aside0 ((((w36.setCell ⟨gb132, 0, none⟩ (.int .i64 ((rd_T47 l0_0 x27_1).f0))).setCell ⟨gb132, 1, none⟩ (.slice A131_1 ((rd_T47 l0_0 x27_1).f1).length c131_1)).setCell ⟨gb132, 2, none⟩ (.slice A131_2 ((rd_T47 l0_0 x27_1).f2).length c131_2)).heap[gb125]? = some (.cells #[.int .i64 t123, .int .i64 t124] 27 (0, 0))) := ⟨kK⟩;have n4_ : Aside0 ((((w36.setCell ⟨gb132, 0, none⟩ (.int .i64 ((rd_T47 l0_0 x27_1).f0))).setCell ⟨gb132, 1, none⟩ (.slice A131_1 ((rd_T47 l0_0 x27_1).f1).length c131_1)).setCell ⟨gb132, 2, none⟩ (.slice A131_2 ((rd_T47 l0_0 x27_1).f2).length c131_2)).heap[gb132]? = some (.cells #[.int .i64 ((rd_T47 l0_0 x27_1).f0), .slice A131_1 ((rd_T47 l0_0 x27_1).f1).length c131_1, .slice A131_2 ((rd_T47 l0_0 x27_1).f2).length c131_2] 47 (0, 0))) := ⟨kK⟩;have n5_ : Aside0 (Below w.heap.size w (((w36.setCell ⟨gb132, 0, none⟩ (.int .i64 ((rd_T47 l0_0 x27_1).f0))).setCell ⟨gb132, 1, none⟩ (.slice A131_1 ((rd_T47 l0_0 x27_1).f1).length c131_1)).setCell ⟨gb132, 2, none⟩ (.slice A131_2 ((rd_T47 l0_0 x27_1).f2).length c131_2))) := ⟨eB⟩;(try clear HO_8);(try clear BK121);(try clear BK122);(try clear BK125);(try clear BK132);(try clear HB);generalize (((w36.setCell ⟨gb132, 0, none⟩ (.int .i64 ((rd_T47 l0_0 x27_1).f0))).setCell ⟨gb132, 1, none⟩ (.slice A131_1 ((rd_T47 l0_0 x27_1).f1).length c131_1)).setCell ⟨gb132, 2, none⟩ (.slice A131_2 ((rd_T47 l0_0 x27_1).f2).length c131_2)) = w41 at n0_ n1_ n2_ n3_ n4_ n5_ ⊢;have HO_8 := n0_;have BK121 := n1_;have BK122 := n2_;have BK125 := n3_;have BK132 := n4_;have HB := n5_;clear n0_ n1_ n2_ n3_ n4_ n5_;replace HO_8 := Aside0.mk (Kd.R_drew HO_8.out);replace BK121 := Aside0.mk (blk_drew BK121.out);replace BK122 := Aside0.mk (blk_drew BK122.out);replace BK125 := Aside0.mk (blk_drew BK125.out);replace BK132 := Aside0.mk (blk_drew BK132.out);replace HB := Aside0.mk (below_drew1 HB.out);refine start_ (n := 17) (S := fun w' => w'.cell? ⟨gb132, 0, none⟩ = some (.int .i64 ((rd_T47 l0_0 x27_1).f0)) ∧ w'.cell? ⟨gb132, 1, none⟩ = some (.slice A131_1 ((rd_T47 l0_0 x27_1).f1).length c131_1) ∧ w'.cell? ⟨gb132, 2, none⟩ = some (.slice A131_2 ((rd_T47 l0_0 x27_1).f2).length c131_2)) (ds := []) #[false, false, false, false, false, false, false, false, false, false, false, false, false, false, false, false, false] (by kernel_rfl) rfl rfl ⟨(blk_cell BK132.out 0).trans rfl, (blk_cell BK132.out 1).trans rfl, (blk_cell BK132.out 2).trans rfl⟩ (fun hHeld => ?_);refine with_tabW textpatch_Apply_0.tab12 textpatch_Apply_0.bits12 (fun HT_ HW_ => ?_);generalize w41.drew = w42 at HO_8 BK121 BK122 BK125 BK132 HB hHeld ⊢;refine pA 2 34 (mb 17 4) HT_ rfl rfl ?_;refine pA 3 35 (mb 17 12) HT_ rfl rfl ?_;refine tA 0 32 (mb 17 13) HT_ HW_ hHeld rfl rfl (by rintro w' ⟨s0, s1, s2⟩;go_simp;with_reducible rfl) ?_;refine one_ (i := 1) (N := some 33) #[true, true, true, true, false, false, false, false, false, false, false, false, false, false, false, false, false] rfl rfl (one_of HT_.out (by kernel_rfl)) (by decide) (fun K hK => ?_);refine goes_ Try.func33 (by kernel_rfl) rfl #[.agg #[.int .i64 ((rd_T47 l0_0 x27_1).f0), .slice A131_1 ((rd_T47 l0_0 x27_1).f1).length c131_1, .slice A131_2 ((rd_T47 l0_0 x27_1).f2).length c131_2]] (by rfl) rfl rfl mA ?_
                  with_reducible refine (textpatch_End.calls ((rd_T47 l0_0 x27_1).f0) _ _ ((rd_T47 l0_0 x27_1).f1) _ _ ((rd_T47 l0_0 x27_1).f2) t133 _ ?side1 ?side2 ?side3 ?side4 A34.out).mono ?_
                  (case side1 => exact cBe HR131_1);(case side2 => exact HC131_1.out);(case side3 => exact cBe HR131_2);(case side4 => exact HC131_2.out)
                  rintro e w43 ⟨rfl, hb⟩
                  refine ⟨_, rfl, ?_⟩;replace HO_8 := Aside0.mk (Kd.R_below (rK HO_8) hb);replace BK121 := lJ BK121 hb;replace BK122 := lJ BK122 hb;replace BK125 := lJ BK125 hb;replace BK132 := lJ BK132 hb;replace HB := sBe HB hb;(try clear hb);(try clear hb2);(try clear hk);(try clear hi);refine hK.out _ _ ⟨(blk_cell BK132.out 0).trans rfl, (blk_cell BK132.out 1).trans rfl, (blk_cell BK132.out 2).trans rfl⟩ (fun hHeld => ?_);clear hK K;refine norm_ (a' := ?_) ?_ ?_;rotate_left
                  · show Act.put _ (some 33) _ = _
                    simp only [Act.put, sA, sB, sC, i64_w, i32_w]
                    rfl
                  refine pA 4 36 (mb 17 31) HT_ rfl rfl ?_;refine pA 5 37 (mb 17 63) HT_ rfl rfl ?_;refine pU 6 38 (mb 17 127) HT_ rfl rfl ?_;refine pU 7 39 (mb 17 255) HT_ rfl rfl ?_;refine pU 8 40 (mb 17 511) HT_ rfl rfl ?_;refine pU 9 41 (mb 17 1023) HT_ rfl rfl ?_;refine pU 10 42 (mb 17 2047) HT_ rfl rfl ?_;refine pU 11 43 (mb 17 4095) HT_ rfl rfl ?_;refine pU 12 44 (mb 17 8191) HT_ rfl rfl ?_;refine pU 13 45 (mb 17 16383) HT_ rfl rfl ?_;refine pU 14 46 (mb 17 32767) HT_ rfl rfl ?_;refine pU 15 47 (mb 17 65535) HT_ rfl rfl ?_;refine pA 16 48 (mb 17 131071) HT_ rfl rfl ?_;refine done_ (done_of HT_.out (by kernel_rfl)) ?_;have hnb44 := NB122_121.out;have hnc44 := NB121_122.out;have hnb45 := NB122_125.out;have hnc45 := NB125_122.out;have hcz46_0 := hC BK122 0 (.int .i64 x123000_1);have hcz46_1 := hC BK122 1 (.int .i64 x123001_1);have hfz46_0 := blk_frozen BK122.out 0;have hfz46_1 := blk_frozen BK122.out 1
                  try go_wp2
                  refine bodyPost_ret (results_tc rfl _ _ gb122 27 #[.int .i64 19, .int .i64 x27_1] (0, 0) _ rfl kK Try.underlying27 rfl (by kernel_rfl)) rfl ?_;exact ⟨_, rW, by first|exact Kd.R_nil _ _ _ _ _|exact Kd.N_nil _ _ _ _ _|exact Kd.V_nil _ _ _ _ _|exact Kd.Q_nil _ _ _ _ _|exact Kd.S_nil _ _ _ _ _, eB⟩
                · rw [if_neg c35] at H;have c35b0 : decide ((l1.length : Int) < t133) = false := decide_eq_false c35;clear c35;replace H := Option.bind_eq_some_iff.mp H;obtain ⟨t134, A470, H⟩ := H;replace H : (if 0 ≤ ((rd_T47 l0_0 x27_1).f0) then (if ((rd_T47 l0_0 x27_1).f0) ≤ t134 then (if t134 ≤ (l1.length : Int) then ((slices_Equal_string_string.f ((l1.take (t134 : Int).toNat).drop (((rd_T47 l0_0 x27_1).f0) : Int).toNat) ((rd_T47 l0_0 x27_1).f1)).bind fun t136 => (if t136 = true then (if 0 ≤ x9_1 then (if x9_1 ≤ ((rd_T47 l0_0 x27_1).f0) then (if ((rd_T47 l0_0 x27_1).f0) ≤ (l1.length : Int) then (if x8_1.length + ((l1.take (((rd_T47 l0_0 x27_1).f0) : Int).toNat).drop (x9_1 : Int).toNat).length < 8796093022208 then ((some (x8_1 ++ ((l1.take (((rd_T47 l0_0 x27_1).f0) : Int).toNat).drop (x9_1 : Int).toNat) : List ByteArray)).bind fun y138 => (if y138.length + ((rd_T47 l0_0 x27_1).f2).length < 8796093022208 then ((textpatch_End.f ((rd_T47 l0_0 x27_1).f0) ((rd_T47 l0_0 x27_1).f1) ((rd_T47 l0_0 x27_1).f2)).bind fun t144 => (textpatch_Apply_0.l0 k1 l1 (y138 ++ ((rd_T47 l0_0 x27_1).f2)) t144 l0_0 (l0_0.length : Int) (wrap64 (x27_1 + 1)))) else (none))) else (none)) else (none)) else (none)) else (none)) else (some (([] : List ByteArray), 19, x27_1)))) else (none)) else (none)) else (none)) = some (r1, r2, r3) := H;have A47 := Aside0.mk A470;clear A470
                  by_cases c48 : 0 ≤ ((rd_T47 l0_0 x27_1).f0)
                  · rw [if_pos c48] at H;have c48b0 := eq_true c48;have c48b1 : decide (0 ≤ ((rd_T47 l0_0 x27_1).f0)) = true := decide_eq_true c48;clear c48
                    by_cases c49 : ((rd_T47 l0_0 x27_1).f0) ≤ t134
                    · rw [if_pos c49] at H;have c49b0 := eq_true c49;have c49b1 : decide (((rd_T47 l0_0 x27_1).f0) ≤ t134) = true := decide_eq_true c49;clear c49
                      by_cases c50 : t134 ≤ (l1.length : Int)
                      · rw [if_pos c50] at H;have c50b0 := eq_true c50;have c50b1 : decide (t134 ≤ (l1.length : Int)) = true := decide_eq_true c50;clear c50;replace H := Option.bind_eq_some_iff.mp H;obtain ⟨t136, A510, H⟩ := H;replace H : (if t136 = true then (if 0 ≤ x9_1 then (if x9_1 ≤ ((rd_T47 l0_0 x27_1).f0) then (if ((rd_T47 l0_0 x27_1).f0) ≤ (l1.length : Int) then (if x8_1.length + ((l1.take (((rd_T47 l0_0 x27_1).f0) : Int).toNat).drop (x9_1 : Int).toNat).length < 8796093022208 then ((some (x8_1 ++ ((l1.take (((rd_T47 l0_0 x27_1).f0) : Int).toNat).drop (x9_1 : Int).toNat) : List ByteArray)).bind fun y138 => (if y138.length + ((rd_T47 l0_0 x27_1).f2).length < 8796093022208 then ((textpatch_End.f ((rd_T47 l0_0 x27_1).f0) ((rd_T47 l0_0 x27_1).f1) ((rd_T47 l0_0 x27_1).f2)).bind fun t144 => (textpatch_Apply_0.l0 k1 l1 (y138 ++ ((rd_T47 l0_0 x27_1).f2)) t144 l0_0 (l0_0.length : Int) (wrap64 (x27_1 + 1)))) else (none))) else (none)) else (none)) else (none)) else (none)) else (some (([] : List ByteArray), 19, x27_1))) = some (r1, r2, r3) := H;have A51 := Aside0.mk A510;clear A510
                        by_cases c52 : t136 = true
                        · subst c52;have H1 : (if 0 ≤ x9_1 then (if x9_1 ≤ ((rd_T47 l0_0 x27_1).f0) then (if ((rd_T47 l0_0 x27_1).f0) ≤ (l1.length : Int) then (if x8_1.length + ((l1.take (((rd_T47 l0_0 x27_1).f0) : Int).toNat).drop (x9_1 : Int).toNat).length < 8796093022208 then ((some (x8_1 ++ ((l1.take (((rd_T47 l0_0 x27_1).f0) : Int).toNat).drop (x9_1 : Int).toNat) : List ByteArray)).bind fun y138 => (if y138.length + ((rd_T47 l0_0 x27_1).f2).length < 8796093022208 then ((textpatch_End.f ((rd_T47 l0_0 x27_1).f0) ((rd_T47 l0_0 x27_1).f1) ((rd_T47 l0_0 x27_1).f2)).bind fun t144 => (textpatch_Apply_0.l0 k1 l1 (y138 ++ ((rd_T47 l0_0 x27_1).f2)) t144 l0_0 (l0_0.length : Int) (wrap64 (x27_1 + 1)))) else (none))) else (none)) else (none)) else (none)) else (none)) = some (r1, r2, r3) := (by rw [if_pos rfl] at H;exact H);clear H;have H := H1;clear H1
                          by_cases c53 : 0 ≤ x9_1
                          · rw [if_pos c53] at H;have c53b0 := eq_true c53;have c53b1 : decide (0 ≤ x9_1) = true := decide_eq_true c53;clear c53
                            by_cases c54 : x9_1 ≤ ((rd_T47 l0_0 x27_1).f0)
                            · rw [if_pos c54] at H;have c54b0 := eq_true c54;have c54b1 : decide (x9_1 ≤ ((rd_T47 l0_0 x27_1).f0)) = true := decide_eq_true c54;clear c54
                              by_cases c55 : ((rd_T47 l0_0 x27_1).f0) ≤ (l1.length : Int)
                              · rw [if_pos c55] at H;have c55b0 := eq_true c55;have c55b1 : decide (((rd_T47 l0_0 x27_1).f0) ≤ (l1.length : Int)) = true := decide_eq_true c55;clear c55
                                by_cases c56 : x8_1.length + ((l1.take (((rd_T47 l0_0 x27_1).f0) : Int).toNat).drop (x9_1 : Int).toNat).length < 8796093022208
                                · rw [if_pos c56] at H;have LMc56 := Aside0.mk c56;clear c56;obtain ⟨y138, hy138⟩ : ∃ y_ : List ByteArray, y_ = (x8_1 ++ ((l1.take (((rd_T47 l0_0 x27_1).f0) : Int).toNat).drop (x9_1 : Int).toNat)) := ⟨_, rfl⟩;replace H : (if y138.length + ((rd_T47 l0_0 x27_1).f2).length < 8796093022208 then ((textpatch_End.f ((rd_T47 l0_0 x27_1).f0) ((rd_T47 l0_0 x27_1).f1) ((rd_T47 l0_0 x27_1).f2)).bind fun t144 => (textpatch_Apply_0.l0 k1 l1 (y138 ++ ((rd_T47 l0_0 x27_1).f2)) t144 l0_0 (l0_0.length : Int) (wrap64 (x27_1 + 1)))) else (none)) = some (r1, r2, r3) := (by first|(rw [hy138];with_reducible exact H)|(have H2_ := (Option.bind_some _ _).symm.trans H;rw [hy138];with_reducible exact H2_)|(have H2_ := (Option.bind_some _ _).symm.trans H;with_reducible exact H2_)|with_reducible exact H|(rw [hy138];exact H)|exact H);have Ny138 := Aside0.mk hy138;clear hy138
                                  by_cases c57 : y138.length + ((rd_T47 l0_0 x27_1).f2).length < 8796093022208
                                  · rw [if_pos c57] at H;have LMc57 := Aside0.mk c57;clear c57;obtain ⟨y141, hy141⟩ : ∃ y_ : List ByteArray, y_ = (y138 ++ ((rd_T47 l0_0 x27_1).f2)) := ⟨_, rfl⟩;replace H : ((textpatch_End.f ((rd_T47 l0_0 x27_1).f0) ((rd_T47 l0_0 x27_1).f1) ((rd_T47 l0_0 x27_1).f2)).bind fun t144 => (textpatch_Apply_0.l0 k1 l1 y141 t144 l0_0 (l0_0.length : Int) (wrap64 (x27_1 + 1)))) = some (r1, r2, r3) := (by first|(rw [hy141];with_reducible exact H)|(have H2_ := (Option.bind_some _ _).symm.trans H;rw [hy141];with_reducible exact H2_)|(have H2_ := (Option.bind_some _ _).symm.trans H;with_reducible exact H2_)|with_reducible exact H|(rw [hy141];exact H)|exact H);have Ny141 := Aside0.mk hy141;clear hy141;replace H := Option.bind_eq_some_iff.mp H;obtain ⟨t144, A580, H⟩ := H;replace H : (textpatch_Apply_0.l0 k1 l1 y141 t144 l0_0 (l0_0.length : Int) (wrap64 (x27_1 + 1))) = some (r1, r2, r3) := H;have A58 := Aside0.mk A580;clear A580;have H' := Aside0.mk H;clear H;have p131 : 0 ≤ (x27_1 : Int) := dA;have q131 : x27_1 < (l0_0.length : Int) := dA;obtain ⟨ad131, A131_1, c131_1, A131_2, c131_2, e131, hx131_0, hx131_1, hx131_2, hl131_1, hi131_1, hl131_2, hi131_2⟩ := at_T47 HR0_0.out x27_1 p131 q131
                                    cases e131
                                    replace hx131_0 := (hX HB hx131_0:);replace hx131_1 := (hX HB hx131_1:);replace hx131_2 := (hX HB hx131_2:);have HR131_1 := Aside0.mk hi131_1;have HC131_1 := Aside0.mk hl131_1;clear hi131_1 hl131_1;have HR131_2 := Aside0.mk hi131_2;have HC131_2 := Aside0.mk hl131_2;clear hi131_2 hl131_2;replace p131 := eq_true p131;replace q131 := eq_true q131
                                    try go_wp2_with (first|((with_reducible refine gate_dst (N := 11) rfl ?_);refine bE 11 #[.int .i64 0, .slice none 0 0, .slice none 0 0] 47 ?_;intro gb132 hg w59 hbox hb;have BK132 := Aside0.mk (hbox);have GW132 := gBe HB hg;have GE132 := gBe HB hg;have NB121_132 := nL BK121 hg;have NB132_121 := nG BK121 hg;have NB122_132 := nL BK122 hg;have NB132_122 := nG BK122 hg;have NB125_132 := nL BK125 hg;have NB132_125 := nG BK125 hg;replace HO_8 := Aside0.mk (Kd.R_below (rK HO_8) hb);replace BK121 := lJ BK121 hb;replace BK122 := lJ BK122 hb;replace BK125 := lJ BK125 hb;replace HB := sBe HB hb;clear hb hbox hg;have hnb60 := NB132_121.out;have hnc60 := NB121_132.out;have hnb61 := NB132_122.out;have hnc61 := NB122_132.out;have hnb62 := NB132_125.out;have hnc62 := NB125_132.out;have hcz63_0 := hC BK132 0 (.int .i64 0);have hcz63_1 := hC BK132 1 (.slice none 0 0);have hcz63_2 := hC BK132 2 (.slice none 0 0);have hfz63_0 := blk_frozen BK132.out 0;have hfz63_1 := blk_frozen BK132.out 1;have hfz63_2 := blk_frozen BK132.out 2))
                                    have n0_ : Aside0 (Kd.R Kd.string 9 (((w59.setCell ⟨gb132, 0, none⟩ (.int .i64 ((rd_T47 l0_0 x27_1).f0))).setCell ⟨gb132, 1, none⟩ (.slice A131_1 ((rd_T47 l0_0 x27_1).f1).length c131_1)).setCell ⟨gb132, 2, none⟩ (.slice A131_2 ((rd_T47 l0_0 x27_1).f2).length c131_2)) w.heap.size (fun _ => True) u8 x8_1) := ⟨by (with_reducible repeat first|apply rA|apply rN|apply rD);exact Kd.R_mono (Kd.R_far (p := ⟨gb132, 2, none⟩) (Kd.R_far (p := ⟨gb132, 1, none⟩) (Kd.R_far (p := ⟨gb132, 0, none⟩) (Kd.R_types HO_8.out BK132.out (by decide)) (fun _ hk => hk.2) (.int .i64 ((rd_T47 l0_0 x27_1).f0))) (fun _ hk => hk.2) (.slice A131_1 ((rd_T47 l0_0 x27_1).f1).length c131_1)) (fun _ hk => hk.2) (.slice A131_2 ((rd_T47 l0_0 x27_1).f2).length c131_2)) (fun _ hk => trivial)⟩;have n1_ : Aside0 ((((w59.setCell ⟨gb132, 0, none⟩ (.int .i64 ((rd_T47 l0_0 x27_1).f0))).setCell ⟨gb132, 1, none⟩ (.slice A131_1 ((rd_T47 l0_0 x27_1).f1).length c131_1)).setCell ⟨gb132, 2, none⟩ (.slice A131_2 ((rd_T47 l0_0 x27_1).f2).length c131_2)).heap[gb121]? = some (.cells #[.slice (some ad131) l0_0.length c0_0] 24 (0, 0))) := ⟨kK⟩;have n2_ : Aside0 ((((w59.setCell ⟨gb132, 0, none⟩ (.int .i64 ((rd_T47 l0_0 x27_1).f0))).setCell ⟨gb132, 1, none⟩ (.slice A131_1 ((rd_T47 l0_0 x27_1).f1).length c131_1)).setCell ⟨gb132, 2, none⟩ (.slice A131_2 ((rd_T47 l0_0 x27_1).f2).length c131_2)).heap[gb122]? = some (.cells #[.int .i64 x123000_1, .int .i64 x123001_1] 27 (0, 0))) := ⟨kK⟩;have n3_ : Aside0 ((((w59.setCell ⟨gb132, 0, none⟩ (.int .i64 ((rd_T47 l0_0 x27_1).f0))).setCell ⟨gb132, 1, none⟩ (.slice A131_1 ((rd_T47 l0_0 x27_1).f1).length c131_1)).setCell ⟨gb132, 2, none⟩ (.slice A131_2 ((rd_T47 l0_0 x27_1).f2).length c131_2)).heap[gb125]? = some (.cells #[.int .i64 t123, .int .i64 t124] 27 (0, 0))) := ⟨kK⟩;have n4_ : Aside0 ((((w59.setCell ⟨gb132, 0, none⟩ (.int .i64 ((rd_T47 l0_0 x27_1).f0))).setCell ⟨gb132, 1, none⟩ (.slice A131_1 ((rd_T47 l0_0 x27_1).f1).length c131_1)).setCell ⟨gb132, 2, none⟩ (.slice A131_2 ((rd_T47 l0_0 x27_1).f2).length c131_2)).heap[gb132]? = some (.cells #[.int .i64 ((rd_T47 l0_0 x27_1).f0), .slice A131_1 ((rd_T47 l0_0 x27_1).f1).length c131_1, .slice A131_2 ((rd_T47 l0_0 x27_1).f2).length c131_2] 47 (0, 0))) := ⟨kK⟩;have n5_ : Aside0 (Below w.heap.size w (((w59.setCell ⟨gb132, 0, none⟩ (.int .i64 ((rd_T47 l0_0 x27_1).f0))).setCell ⟨gb132, 1, none⟩ (.slice A131_1 ((rd_T47 l0_0 x27_1).f1).length c131_1)).setCell ⟨gb132, 2, none⟩ (.slice A131_2 ((rd_T47 l0_0 x27_1).f2).length c131_2))) := ⟨eB⟩;(try clear HO_8);(try clear BK121);(try clear BK122);(try clear BK125);(try clear BK132);(try clear HB);generalize (((w59.setCell ⟨gb132, 0, none⟩ (.int .i64 ((rd_T47 l0_0 x27_1).f0))).setCell ⟨gb132, 1, none⟩ (.slice A131_1 ((rd_T47 l0_0 x27_1).f1).length c131_1)).setCell ⟨gb132, 2, none⟩ (.slice A131_2 ((rd_T47 l0_0 x27_1).f2).length c131_2)) = w64 at n0_ n1_ n2_ n3_ n4_ n5_ ⊢;have HO_8 := n0_;have BK121 := n1_;have BK122 := n2_;have BK125 := n3_;have BK132 := n4_;have HB := n5_;clear n0_ n1_ n2_ n3_ n4_ n5_;replace HO_8 := Aside0.mk (Kd.R_drew HO_8.out);replace BK121 := Aside0.mk (blk_drew BK121.out);replace BK122 := Aside0.mk (blk_drew BK122.out);replace BK125 := Aside0.mk (blk_drew BK125.out);replace BK132 := Aside0.mk (blk_drew BK132.out);replace HB := Aside0.mk (below_drew1 HB.out);refine start_ (n := 17) (S := fun w' => w'.cell? ⟨gb132, 0, none⟩ = some (.int .i64 ((rd_T47 l0_0 x27_1).f0)) ∧ w'.cell? ⟨gb132, 1, none⟩ = some (.slice A131_1 ((rd_T47 l0_0 x27_1).f1).length c131_1) ∧ w'.cell? ⟨gb132, 2, none⟩ = some (.slice A131_2 ((rd_T47 l0_0 x27_1).f2).length c131_2)) (ds := []) #[false, false, false, false, false, false, false, false, false, false, false, false, false, false, false, false, false] (by kernel_rfl) rfl rfl ⟨(blk_cell BK132.out 0).trans rfl, (blk_cell BK132.out 1).trans rfl, (blk_cell BK132.out 2).trans rfl⟩ (fun hHeld => ?_);refine with_tabW textpatch_Apply_0.tab12 textpatch_Apply_0.bits12 (fun HT_ HW_ => ?_);generalize w64.drew = w65 at HO_8 BK121 BK122 BK125 BK132 HB hHeld ⊢;refine pA 2 34 (mb 17 4) HT_ rfl rfl ?_;refine pA 3 35 (mb 17 12) HT_ rfl rfl ?_;refine tA 0 32 (mb 17 13) HT_ HW_ hHeld rfl rfl (by rintro w' ⟨s0, s1, s2⟩;go_simp;with_reducible rfl) ?_;refine one_ (i := 1) (N := some 33) #[true, true, true, true, false, false, false, false, false, false, false, false, false, false, false, false, false] rfl rfl (one_of HT_.out (by kernel_rfl)) (by decide) (fun K hK => ?_);refine goes_ Try.func33 (by kernel_rfl) rfl #[.agg #[.int .i64 ((rd_T47 l0_0 x27_1).f0), .slice A131_1 ((rd_T47 l0_0 x27_1).f1).length c131_1, .slice A131_2 ((rd_T47 l0_0 x27_1).f2).length c131_2]] (by rfl) rfl rfl mA ?_
                                    with_reducible refine (textpatch_End.calls ((rd_T47 l0_0 x27_1).f0) _ _ ((rd_T47 l0_0 x27_1).f1) _ _ ((rd_T47 l0_0 x27_1).f2) t133 _ ?side1 ?side2 ?side3 ?side4 A34.out).mono ?_
                                    (case side1 => exact cBe HR131_1);(case side2 => exact HC131_1.out);(case side3 => exact cBe HR131_2);(case side4 => exact HC131_2.out)
                                    rintro e w66 ⟨rfl, hb⟩
                                    refine ⟨_, rfl, ?_⟩;replace HO_8 := Aside0.mk (Kd.R_below (rK HO_8) hb);replace BK121 := lJ BK121 hb;replace BK122 := lJ BK122 hb;replace BK125 := lJ BK125 hb;replace BK132 := lJ BK132 hb;replace HB := sBe HB hb;(try clear hb);(try clear hb2);(try clear hk);(try clear hi);refine hK.out _ _ ⟨(blk_cell BK132.out 0).trans rfl, (blk_cell BK132.out 1).trans rfl, (blk_cell BK132.out 2).trans rfl⟩ (fun hHeld => ?_);clear hK K;refine norm_ (a' := ?_) ?_ ?_;rotate_left
                                    · show Act.put _ (some 33) _ = _
                                      simp only [Act.put, sA, sB, sC, i64_w, i32_w]
                                      rfl
                                    refine pA 4 36 (mb 17 31) HT_ rfl rfl ?_;refine pA 5 37 (mb 17 63) HT_ rfl rfl ?_;refine pA 6 38 (mb 17 127) HT_ rfl rfl ?_;refine pA 7 39 (mb 17 255) HT_ rfl rfl ?_;refine pA 12 44 (mb 17 4351) HT_ rfl rfl ?_;refine tA 8 40 (mb 17 4607) HT_ HW_ hHeld rfl rfl (by rintro w' ⟨s0, s1, s2⟩;go_simp;with_reducible rfl) ?_;refine tA 9 41 (mb 17 5119) HT_ HW_ hHeld rfl rfl (by rintro w' ⟨s0, s1, s2⟩;go_simp;with_reducible rfl) ?_;refine tA 13 45 (mb 17 13311) HT_ HW_ hHeld rfl rfl (by rintro w' ⟨s0, s1, s2⟩;go_simp;with_reducible rfl) ?_;refine one_ (i := 10) (N := some 42) #[true, true, true, true, true, true, true, true, true, true, true, false, true, true, false, false, false] rfl rfl (one_of HT_.out (by kernel_rfl)) (by decide) (fun K hK => ?_);refine goes_ Try.func33 (by kernel_rfl) rfl #[.agg #[.int .i64 ((rd_T47 l0_0 x27_1).f0), .slice A131_1 ((rd_T47 l0_0 x27_1).f1).length c131_1, .slice A131_2 ((rd_T47 l0_0 x27_1).f2).length c131_2]] (by rfl) rfl rfl mA ?_
                                    with_reducible refine (textpatch_End.calls ((rd_T47 l0_0 x27_1).f0) _ _ ((rd_T47 l0_0 x27_1).f1) _ _ ((rd_T47 l0_0 x27_1).f2) t134 _ ?side1 ?side2 ?side3 ?side4 A47.out).mono ?_
                                    (case side1 => exact cBe HR131_1);(case side2 => exact HC131_1.out);(case side3 => exact cBe HR131_2);(case side4 => exact HC131_2.out)
                                    rintro e w67 ⟨rfl, hb⟩
                                    refine ⟨_, rfl, ?_⟩;replace HO_8 := Aside0.mk (Kd.R_below (rK HO_8) hb);replace BK121 := lJ BK121 hb;replace BK122 := lJ BK122 hb;replace BK125 := lJ BK125 hb;replace BK132 := lJ BK132 hb;replace HB := sBe HB hb;(try clear hb);(try clear hb2);(try clear hk);(try clear hi);obtain ⟨i068, hi068, _, hsz68, _⟩ := info_parts info9;obtain ⟨A68, hcut68, hA68, hC68⟩ := print_mid_of (P := Try.prog) Value.string (⟨#[]⟩ : ByteArray) 25 9 .i64 .i64 Try.underlying25 hi068 hsz68 A1 c1 l1 ((rd_T47 l0_0 x27_1).f0) t134 (dA) (by first|omega|exact dA) (dA) HC1.out;have HR135 := Aside0.mk (Kd.C_of_reads (h1 := fun _ => rfl) (hA68 _ (Kd.reads_of_C HR1.out)));have HC135 := Aside0.mk hC68;clear hA68 hC68 hi068 hsz68;refine hK.out _ _ ⟨(blk_cell BK132.out 0).trans rfl, (blk_cell BK132.out 1).trans rfl, (blk_cell BK132.out 2).trans rfl⟩ (fun hHeld => ?_);clear hK K;refine norm_ (a' := ?_) ?_ ?_;rotate_left
                                    · show Act.put _ (some 42) _ = _
                                      simp only [Act.put, sA, sB, sC, i64_w, i32_w]
                                      rfl
                                    refine pA 11 43 (mb 17 16383) HT_ rfl rfl ?_;refine one_ (i := 14) (N := some 46) #[true, true, true, true, true, true, true, true, true, true, true, true, true, true, true, false, false] rfl rfl (one_of HT_.out (by kernel_rfl)) (by decide) (fun K hK => ?_);refine goes_ Try.func34 (by kernel_rfl) rfl #[.slice A68 ((l1.take (t134 : Int).toNat).drop (((rd_T47 l0_0 x27_1).f0) : Int).toNat).length (c1 - ((rd_T47 l0_0 x27_1).f0).toNat), .slice A131_1 ((rd_T47 l0_0 x27_1).f1).length c131_1] (by rfl) rfl rfl (by (try simp only [List.map_toArray, List.map_cons, List.map_nil]);first|done|(rw [show ((l1.take (t134 : Int).toNat).drop (((rd_T47 l0_0 x27_1).f0) : Int).toNat).length = (t134.toNat - ((rd_T47 l0_0 x27_1).f0).toNat) from (by rw [List.length_drop, List.length_take];have h_ : (t134 : Int) ≤ (l1.length : Int) := dA;omega)] <;> rfl)|rfl|(simp only [List.length_drop, List.length_take];rfl)) ?_
                                    with_reducible refine (slices_Equal_string_string.calls _ _ ((l1.take (t134 : Int).toNat).drop (((rd_T47 l0_0 x27_1).f0) : Int).toNat) _ _ ((rd_T47 l0_0 x27_1).f1) true _ ?side1 ?side2 ?side3 ?side4 A51.out).mono ?_
                                    (case side1 => exact cBe HR135);(case side2 => exact HC135.out);(case side3 => exact cBe HR131_1);(case side4 => exact HC131_1.out)
                                    rintro e w' ⟨rfl, ⟨nd, rfl⟩⟩
                                    refine ⟨_, rfl, ?_⟩;refine hK.out _ _ ⟨(blk_cell BK132.out 0).trans rfl, (blk_cell BK132.out 1).trans rfl, (blk_cell BK132.out 2).trans rfl⟩ (fun hHeld => ?_);clear hK K;refine norm_ (a' := ?_) ?_ ?_;rotate_left
                                    · show Act.put _ (some 46) _ = _
                                      simp only [Act.put, sA, sB, sC, i64_w, i32_w]
                                      rfl
                                    refine pA 15 47 (mb 17 65535) HT_ rfl rfl ?_;refine pA 16 48 (mb 17 131071) HT_ rfl rfl ?_;refine done_ (done_of HT_.out (by kernel_rfl)) ?_
                                    try go_wp2
                                    (try (rw [drewN_self w67];generalize hq_ : World.drewN w67 _ = w67;have n0_ : Aside0 (Kd.R Kd.string 9 w67 w.heap.size (fun _ => True) u8 x8_1) := ⟨by rw [← hq_];exact (rK HO_8)⟩;have n1_ : Aside0 (w67.heap[gb121]? = some (.cells #[.slice (some ad131) l0_0.length c0_0] 24 (0, 0))) := ⟨by rw [← hq_];exact kK⟩;have n2_ : Aside0 (w67.heap[gb122]? = some (.cells #[.int .i64 x123000_1, .int .i64 x123001_1] 27 (0, 0))) := ⟨by rw [← hq_];exact kK⟩;have n3_ : Aside0 (w67.heap[gb125]? = some (.cells #[.int .i64 t123, .int .i64 t124] 27 (0, 0))) := ⟨by rw [← hq_];exact kK⟩;have n4_ : Aside0 (w67.heap[gb132]? = some (.cells #[.int .i64 ((rd_T47 l0_0 x27_1).f0), .slice A131_1 ((rd_T47 l0_0 x27_1).f1).length c131_1, .slice A131_2 ((rd_T47 l0_0 x27_1).f2).length c131_2] 47 (0, 0))) := ⟨by rw [← hq_];exact kK⟩;have n5_ : Aside0 (Below w.heap.size w w67) := ⟨by rw [← hq_];exact eB⟩;clear HO_8 BK121 BK122 BK125 BK132 HB hq_;have HO_8 := n0_;have BK121 := n1_;have BK122 := n2_;have BK125 := n3_;have BK132 := n4_;have HB := n5_;clear n0_ n1_ n2_ n3_ n4_ n5_));replace HO_8 := Aside0.mk (Kd.R_drew HO_8.out);replace BK121 := Aside0.mk (blk_drew BK121.out);replace BK122 := Aside0.mk (blk_drew BK122.out);replace BK125 := Aside0.mk (blk_drew BK125.out);replace BK132 := Aside0.mk (blk_drew BK132.out);replace HB := Aside0.mk (below_drew1 HB.out);obtain ⟨i070, hi070, _, hsz70, _⟩ := info_parts info9;obtain ⟨A70, hcut70, hA70, hC70⟩ := print_mid_of (P := Try.prog) Value.string (⟨#[]⟩ : ByteArray) 25 9 .i64 .i64 Try.underlying25 hi070 hsz70 A1 c1 l1 x9_1 ((rd_T47 l0_0 x27_1).f0) (dA) (by first|omega|exact dA) (dA) HC1.out;have HR137 := Aside0.mk (Kd.C_of_reads (h1 := fun _ => rfl) (hA70 _ (Kd.reads_of_C HR1.out)));have HC137 := Aside0.mk hC70;clear hA70 hC70 hi070 hsz70;refine start_ (n := 11) (S := fun w' => w'.cell? ⟨gb132, 0, none⟩ = some (.int .i64 ((rd_T47 l0_0 x27_1).f0)) ∧ w'.cell? ⟨gb132, 1, none⟩ = some (.slice A131_1 ((rd_T47 l0_0 x27_1).f1).length c131_1) ∧ w'.cell? ⟨gb132, 2, none⟩ = some (.slice A131_2 ((rd_T47 l0_0 x27_1).f2).length c131_2)) (ds := []) #[false, false, false, false, false, false, false, false, false, false, false] (by kernel_rfl) rfl rfl ⟨(blk_cell BK132.out 0).trans rfl, (blk_cell BK132.out 1).trans rfl, (blk_cell BK132.out 2).trans rfl⟩ (fun hHeld => ?_);refine with_tabW textpatch_Apply_0.tab14 textpatch_Apply_0.bits14 (fun HT_ HW_ => ?_);generalize w67.drew = w69 at HO_8 BK121 BK122 BK125 BK132 HB HR137 hHeld ⊢;refine pA 0 51 (mb 11 1) HT_ rfl rfl ?_;refine pA 1 52 (mb 11 3) HT_ rfl rfl ?_;refine pA 2 53 (mb 11 7) HT_ rfl rfl ?_;refine pA 3 54 (mb 11 15) HT_ rfl rfl ?_;refine pA 7 58 (mb 11 143) HT_ rfl rfl ?_;refine tA 4 55 (mb 11 159) HT_ HW_ hHeld rfl rfl (by rintro w' ⟨s0, s1, s2⟩;go_simp;with_reducible rfl) ?_;refine pA 5 56 (mb 11 191) HT_ rfl rfl ?_;refine tA 8 59 (mb 11 447) HT_ HW_ hHeld rfl rfl (by rintro w' ⟨s0, s1, s2⟩;go_simp;with_reducible rfl) ?_;refine one_ (i := 6) (N := some 57) #[true, true, true, true, true, true, true, true, true, false, false] rfl rfl (one_of HT_.out (by kernel_rfl)) (by decide) (fun K hK => ?_);refine Kd.R_append_rows_step Kd.string (w0 := w) w.heap.size (by rfl) (.tmp 51) (.tmp 56) 25 9 (.string ⟨#[]⟩) 16 rfl Try.underlying25 info9 rfl (by decide) (by omega) u8 x8_1 ((l1.take (((rd_T47 l0_0 x27_1).f0) : Int).toNat).drop (x9_1 : Int).toNat) _ _ _ (fun _ => True) (fun _ => False) rfl rfl ?aO ?aR (fun _ _ h => h) (fun _ h => h.elim) ?aF ?aB ?aS ?aL ?_;(case aR => first|(rw [← show ((l1.take (((rd_T47 l0_0 x27_1).f0) : Int).toNat).drop (x9_1 : Int).toNat).length = (((rd_T47 l0_0 x27_1).f0).toNat - x9_1.toNat) from (by rw [List.length_drop, List.length_take];have h_ : (((rd_T47 l0_0 x27_1).f0) : Int) ≤ (l1.length : Int) := dA;omega)];repeat (first|exact (Kd.C_below HR137.out HB.out)|(with_reducible refine Kd.C_alloc ?_ _)|(with_reducible refine Kd.C_drewN ?_ _)|(with_reducible refine Kd.C_drew ?_)))|(repeat (first|exact (Kd.C_below HR137.out HB.out)|(with_reducible refine Kd.C_alloc ?_ _)|(with_reducible refine Kd.C_drewN ?_ _)|(with_reducible refine Kd.C_drew ?_))));(case aB => exact eB);(case aF => exact (fun _ _ => trivial));(case aO => exact (rK HO_8));(case aS => exact (below_size eB));(case aL => have := LMc56.out;have hlx_ := (show ((l1.take (((rd_T47 l0_0 x27_1).f0) : Int).toNat).drop (x9_1 : Int).toNat).length = (((rd_T47 l0_0 x27_1).f0).toNat - x9_1.toNat) from (by rw [List.length_drop, List.length_take];have h_ : (((rd_T47 l0_0 x27_1).f0) : Int) ≤ (l1.length : Int) := dA;omega));omega)
                                    intro v139 w71 ho hb hg hat
                                    rw [← Ny138.out] at ho;have n0_ := Aside0.mk (blk_grown (g := gb121) (o := .cells #[.slice (some ad131) l0_0.length c0_0] 24 (0, 0)) kK hg (Kd.R_ne HO_8.out BK121.out (by decide)));have n1_ := Aside0.mk (blk_grown (g := gb122) (o := .cells #[.int .i64 x123000_1, .int .i64 x123001_1] 27 (0, 0)) kK hg (Kd.R_ne HO_8.out BK122.out (by decide)));have n2_ := Aside0.mk (blk_grown (g := gb125) (o := .cells #[.int .i64 t123, .int .i64 t124] 27 (0, 0)) kK hg (Kd.R_ne HO_8.out BK125.out (by decide)));have n3_ := Aside0.mk (blk_grown (g := gb132) (o := .cells #[.int .i64 ((rd_T47 l0_0 x27_1).f0), .slice A131_1 ((rd_T47 l0_0 x27_1).f1).length c131_1, .slice A131_2 ((rd_T47 l0_0 x27_1).f2).length c131_2] 47 (0, 0)) kK hg (Kd.R_ne HO_8.out BK132.out (by decide)));have n4_ := Aside0.mk (hb);have n5_ := Aside0.mk (ho);clear BK121;clear BK122;clear BK125;clear BK132;clear HB;clear HO_8;have BK121 := n0_;have BK122 := n1_;have BK125 := n2_;have BK132 := n3_;have HB := n4_;have HO140 := n5_;clear n0_ n1_ n2_ n3_ n4_ n5_;clear ho hb hg hat;refine hK.out _ _ ⟨(blk_cell BK132.out 0).trans rfl, (blk_cell BK132.out 1).trans rfl, (blk_cell BK132.out 2).trans rfl⟩ (fun hHeld => ?_);clear hK K;refine norm_ (a' := ?_) ?_ ?_;rotate_left
                                    · show Act.put _ (some 57) _ = _
                                      simp only [Act.put, sA, sB, sC, i64_w, i32_w]
                                      rfl
                                    refine one_ (i := 9) (N := some 60) #[true, true, true, true, true, true, true, true, true, true, false] rfl rfl (one_of HT_.out (by kernel_rfl)) (by decide) (fun K hK => ?_);refine Kd.R_append_rows_step Kd.string (w0 := w) w.heap.size (by rfl) (.tmp 57) (.tmp 59) 25 9 (.string ⟨#[]⟩) 16 rfl Try.underlying25 info9 rfl (by decide) (by omega) v139 y138 ((rd_T47 l0_0 x27_1).f2) _ _ _ (fun _ => True) (fun _ => False) rfl rfl ?aO ?aR (fun _ _ h => h) (fun _ h => h.elim) ?aF ?aB ?aS ?aL ?_;(case aR => repeat (first|exact (Kd.C_below HR131_2.out HB.out)|(with_reducible refine Kd.C_alloc ?_ _)|(with_reducible refine Kd.C_drewN ?_ _)|(with_reducible refine Kd.C_drew ?_)));(case aB => exact eB);(case aF => exact (fun _ _ => trivial));(case aO => exact (rK HO140));(case aS => exact (below_size eB));(case aL => have := LMc57.out;omega)
                                    intro v142 w72 ho hb hg hat
                                    rw [← Ny141.out] at ho;have n0_ := Aside0.mk (blk_grown (g := gb121) (o := .cells #[.slice (some ad131) l0_0.length c0_0] 24 (0, 0)) kK hg (Kd.R_ne HO140.out BK121.out (by decide)));have n1_ := Aside0.mk (blk_grown (g := gb122) (o := .cells #[.int .i64 x123000_1, .int .i64 x123001_1] 27 (0, 0)) kK hg (Kd.R_ne HO140.out BK122.out (by decide)));have n2_ := Aside0.mk (blk_grown (g := gb125) (o := .cells #[.int .i64 t123, .int .i64 t124] 27 (0, 0)) kK hg (Kd.R_ne HO140.out BK125.out (by decide)));have n3_ := Aside0.mk (blk_grown (g := gb132) (o := .cells #[.int .i64 ((rd_T47 l0_0 x27_1).f0), .slice A131_1 ((rd_T47 l0_0 x27_1).f1).length c131_1, .slice A131_2 ((rd_T47 l0_0 x27_1).f2).length c131_2] 47 (0, 0)) kK hg (Kd.R_ne HO140.out BK132.out (by decide)));have n4_ := Aside0.mk (hb);have n5_ := Aside0.mk (ho);clear BK121;clear BK122;clear BK125;clear BK132;clear HB;clear HO140;have BK121 := n0_;have BK122 := n1_;have BK125 := n2_;have BK132 := n3_;have HB := n4_;have HO143 := n5_;clear n0_ n1_ n2_ n3_ n4_ n5_;clear ho hb hg hat;refine hK.out _ _ ⟨(blk_cell BK132.out 0).trans rfl, (blk_cell BK132.out 1).trans rfl, (blk_cell BK132.out 2).trans rfl⟩ (fun hHeld => ?_);clear hK K;refine norm_ (a' := ?_) ?_ ?_;rotate_left
                                    · show Act.put _ (some 60) _ = _
                                      simp only [Act.put, sA, sB, sC, i64_w, i32_w]
                                      rfl
                                    refine pA 10 8 (mb 11 2047) HT_ rfl rfl ?_;refine done_ (done_of HT_.out (by kernel_rfl)) ?_;have hcz73_0 := hC BK132 0 (.int .i64 ((rd_T47 l0_0 x27_1).f0));have hcz73_1 := hC BK132 1 (.slice A131_1 ((rd_T47 l0_0 x27_1).f1).length c131_1);have hcz73_2 := hC BK132 2 (.slice A131_2 ((rd_T47 l0_0 x27_1).f2).length c131_2);have hfz73_0 := blk_frozen BK132.out 0;have hfz73_1 := blk_frozen BK132.out 1;have hfz73_2 := blk_frozen BK132.out 2
                                    try go_wp2_with (first|((with_reducible refine gate_callee (f := 33) rfl ?_);refine goesL_ (some 62) rfl rfl Try.func33 (by kernel_rfl) rfl #[.agg #[.int .i64 ((rd_T47 l0_0 x27_1).f0), .slice A131_1 ((rd_T47 l0_0 x27_1).f1).length c131_1, .slice A131_2 ((rd_T47 l0_0 x27_1).f2).length c131_2]] rfl mA ?_;(with_reducible refine (textpatch_End.calls ((rd_T47 l0_0 x27_1).f0) _ _ ((rd_T47 l0_0 x27_1).f1) _ _ ((rd_T47 l0_0 x27_1).f2) t144 _ ?side1 ?side2 ?side3 ?side4 A58.out).mono ?_);(case side1 => exact cBe HR131_1);(case side2 => exact HC131_1.out);(case side3 => exact cBe HR131_2);(case side4 => exact HC131_2.out);rintro e w74 ⟨rfl, hb⟩;refine ⟨_, rfl, ?_⟩;replace HO143 := Aside0.mk (Kd.R_below (rK HO143) hb);replace BK121 := lJ BK121 hb;replace BK122 := lJ BK122 hb;replace BK125 := lJ BK125 hb;replace BK132 := lJ BK132 hb;replace HB := sBe HB hb;(try clear hb);(try clear hb2);(try clear hk);(try clear hi)))
                                    go_roundg k1
                                    case measure => have := HK1.out;omega
                                    case rel => exact ⟨(y141), (t144), (wrap64 (x27_1 + 1)), (x123000_1), (x123001_1), (by first|rfl|(simp;done)|(simp [*];done)), (by first|rfl|(simp;done)|(simp [*];done)), H', ⟨by have := HK1.out;omega⟩, ⟨by (with_reducible repeat first|apply rA|apply rN|apply rD);exact HO143.out⟩, ⟨kK⟩, ⟨kK⟩, ⟨kK⟩, ⟨eB⟩⟩
                                  · rw [if_neg c57] at H;exact absurd H (by simp)
                                · rw [if_neg c56] at H;exact absurd H (by simp)
                              · rw [if_neg c55] at H;exact absurd H (by simp)
                            · rw [if_neg c54] at H;exact absurd H (by simp)
                          · rw [if_neg c53] at H;exact absurd H (by simp)
                        · replace c52 := Bool.eq_false_iff.mpr c52;subst c52;have H1 : (some (([] : List ByteArray), 19, x27_1)) = some (r1, r2, r3) := (by rw [if_neg (show ¬ (false = true) by decide)] at H;exact H);clear H;have H := H1;clear H1;simp only [Option.some.injEq, Prod.mk.injEq] at H;obtain ⟨rfl, rfl, rfl⟩ := H;have p131 : 0 ≤ (x27_1 : Int) := dA;have q131 : x27_1 < (l0_0.length : Int) := dA;obtain ⟨ad131, A131_1, c131_1, A131_2, c131_2, e131, hx131_0, hx131_1, hx131_2, hl131_1, hi131_1, hl131_2, hi131_2⟩ := at_T47 HR0_0.out x27_1 p131 q131
                          cases e131
                          replace hx131_0 := (hX HB hx131_0:);replace hx131_1 := (hX HB hx131_1:);replace hx131_2 := (hX HB hx131_2:);have HR131_1 := Aside0.mk hi131_1;have HC131_1 := Aside0.mk hl131_1;clear hi131_1 hl131_1;have HR131_2 := Aside0.mk hi131_2;have HC131_2 := Aside0.mk hl131_2;clear hi131_2 hl131_2;replace p131 := eq_true p131;replace q131 := eq_true q131
                          try go_wp2_with (first|((with_reducible refine gate_dst (N := 11) rfl ?_);refine bE 11 #[.int .i64 0, .slice none 0 0, .slice none 0 0] 47 ?_;intro gb132 hg w75 hbox hb;have BK132 := Aside0.mk (hbox);have GW132 := gBe HB hg;have GE132 := gBe HB hg;have NB121_132 := nL BK121 hg;have NB132_121 := nG BK121 hg;have NB122_132 := nL BK122 hg;have NB132_122 := nG BK122 hg;have NB125_132 := nL BK125 hg;have NB132_125 := nG BK125 hg;replace HO_8 := Aside0.mk (Kd.R_below (rK HO_8) hb);replace BK121 := lJ BK121 hb;replace BK122 := lJ BK122 hb;replace BK125 := lJ BK125 hb;replace HB := sBe HB hb;clear hb hbox hg;have hnb76 := NB132_121.out;have hnc76 := NB121_132.out;have hnb77 := NB132_122.out;have hnc77 := NB122_132.out;have hnb78 := NB132_125.out;have hnc78 := NB125_132.out;have hcz79_0 := hC BK132 0 (.int .i64 0);have hcz79_1 := hC BK132 1 (.slice none 0 0);have hcz79_2 := hC BK132 2 (.slice none 0 0);have hfz79_0 := blk_frozen BK132.out 0;have hfz79_1 := blk_frozen BK132.out 1;have hfz79_2 := blk_frozen BK132.out 2))
                          have n0_ : Aside0 (Kd.R Kd.string 9 (((w75.setCell ⟨gb132, 0, none⟩ (.int .i64 ((rd_T47 l0_0 x27_1).f0))).setCell ⟨gb132, 1, none⟩ (.slice A131_1 ((rd_T47 l0_0 x27_1).f1).length c131_1)).setCell ⟨gb132, 2, none⟩ (.slice A131_2 ((rd_T47 l0_0 x27_1).f2).length c131_2)) w.heap.size (fun _ => True) u8 x8_1) := ⟨by (with_reducible repeat first|apply rA|apply rN|apply rD);exact Kd.R_mono (Kd.R_far (p := ⟨gb132, 2, none⟩) (Kd.R_far (p := ⟨gb132, 1, none⟩) (Kd.R_far (p := ⟨gb132, 0, none⟩) (Kd.R_types HO_8.out BK132.out (by decide)) (fun _ hk => hk.2) (.int .i64 ((rd_T47 l0_0 x27_1).f0))) (fun _ hk => hk.2) (.slice A131_1 ((rd_T47 l0_0 x27_1).f1).length c131_1)) (fun _ hk => hk.2) (.slice A131_2 ((rd_T47 l0_0 x27_1).f2).length c131_2)) (fun _ hk => trivial)⟩;have n1_ : Aside0 ((((w75.setCell ⟨gb132, 0, none⟩ (.int .i64 ((rd_T47 l0_0 x27_1).f0))).setCell ⟨gb132, 1, none⟩ (.slice A131_1 ((rd_T47 l0_0 x27_1).f1).length c131_1)).setCell ⟨gb132, 2, none⟩ (.slice A131_2 ((rd_T47 l0_0 x27_1).f2).length c131_2)).heap[gb121]? = some (.cells #[.slice (some ad131) l0_0.length c0_0] 24 (0, 0))) := ⟨kK⟩;have n2_ : Aside0 ((((w75.setCell ⟨gb132, 0, none⟩ (.int .i64 ((rd_T47 l0_0 x27_1).f0))).setCell ⟨gb132, 1, none⟩ (.slice A131_1 ((rd_T47 l0_0 x27_1).f1).length c131_1)).setCell ⟨gb132, 2, none⟩ (.slice A131_2 ((rd_T47 l0_0 x27_1).f2).length c131_2)).heap[gb122]? = some (.cells #[.int .i64 x123000_1, .int .i64 x123001_1] 27 (0, 0))) := ⟨kK⟩;have n3_ : Aside0 ((((w75.setCell ⟨gb132, 0, none⟩ (.int .i64 ((rd_T47 l0_0 x27_1).f0))).setCell ⟨gb132, 1, none⟩ (.slice A131_1 ((rd_T47 l0_0 x27_1).f1).length c131_1)).setCell ⟨gb132, 2, none⟩ (.slice A131_2 ((rd_T47 l0_0 x27_1).f2).length c131_2)).heap[gb125]? = some (.cells #[.int .i64 t123, .int .i64 t124] 27 (0, 0))) := ⟨kK⟩;have n4_ : Aside0 ((((w75.setCell ⟨gb132, 0, none⟩ (.int .i64 ((rd_T47 l0_0 x27_1).f0))).setCell ⟨gb132, 1, none⟩ (.slice A131_1 ((rd_T47 l0_0 x27_1).f1).length c131_1)).setCell ⟨gb132, 2, none⟩ (.slice A131_2 ((rd_T47 l0_0 x27_1).f2).length c131_2)).heap[gb132]? = some (.cells #[.int .i64 ((rd_T47 l0_0 x27_1).f0), .slice A131_1 ((rd_T47 l0_0 x27_1).f1).length c131_1, .slice A131_2 ((rd_T47 l0_0 x27_1).f2).length c131_2] 47 (0, 0))) := ⟨kK⟩;have n5_ : Aside0 (Below w.heap.size w (((w75.setCell ⟨gb132, 0, none⟩ (.int .i64 ((rd_T47 l0_0 x27_1).f0))).setCell ⟨gb132, 1, none⟩ (.slice A131_1 ((rd_T47 l0_0 x27_1).f1).length c131_1)).setCell ⟨gb132, 2, none⟩ (.slice A131_2 ((rd_T47 l0_0 x27_1).f2).length c131_2))) := ⟨eB⟩;(try clear HO_8);(try clear BK121);(try clear BK122);(try clear BK125);(try clear BK132);(try clear HB);generalize (((w75.setCell ⟨gb132, 0, none⟩ (.int .i64 ((rd_T47 l0_0 x27_1).f0))).setCell ⟨gb132, 1, none⟩ (.slice A131_1 ((rd_T47 l0_0 x27_1).f1).length c131_1)).setCell ⟨gb132, 2, none⟩ (.slice A131_2 ((rd_T47 l0_0 x27_1).f2).length c131_2)) = w80 at n0_ n1_ n2_ n3_ n4_ n5_ ⊢;have HO_8 := n0_;have BK121 := n1_;have BK122 := n2_;have BK125 := n3_;have BK132 := n4_;have HB := n5_;clear n0_ n1_ n2_ n3_ n4_ n5_;replace HO_8 := Aside0.mk (Kd.R_drew HO_8.out);replace BK121 := Aside0.mk (blk_drew BK121.out);replace BK122 := Aside0.mk (blk_drew BK122.out);replace BK125 := Aside0.mk (blk_drew BK125.out);replace BK132 := Aside0.mk (blk_drew BK132.out);replace HB := Aside0.mk (below_drew1 HB.out);refine start_ (n := 17) (S := fun w' => w'.cell? ⟨gb132, 0, none⟩ = some (.int .i64 ((rd_T47 l0_0 x27_1).f0)) ∧ w'.cell? ⟨gb132, 1, none⟩ = some (.slice A131_1 ((rd_T47 l0_0 x27_1).f1).length c131_1) ∧ w'.cell? ⟨gb132, 2, none⟩ = some (.slice A131_2 ((rd_T47 l0_0 x27_1).f2).length c131_2)) (ds := []) #[false, false, false, false, false, false, false, false, false, false, false, false, false, false, false, false, false] (by kernel_rfl) rfl rfl ⟨(blk_cell BK132.out 0).trans rfl, (blk_cell BK132.out 1).trans rfl, (blk_cell BK132.out 2).trans rfl⟩ (fun hHeld => ?_);refine with_tabW textpatch_Apply_0.tab12 textpatch_Apply_0.bits12 (fun HT_ HW_ => ?_);generalize w80.drew = w81 at HO_8 BK121 BK122 BK125 BK132 HB hHeld ⊢;refine pA 2 34 (mb 17 4) HT_ rfl rfl ?_;refine pA 3 35 (mb 17 12) HT_ rfl rfl ?_;refine tA 0 32 (mb 17 13) HT_ HW_ hHeld rfl rfl (by rintro w' ⟨s0, s1, s2⟩;go_simp;with_reducible rfl) ?_;refine one_ (i := 1) (N := some 33) #[true, true, true, true, false, false, false, false, false, false, false, false, false, false, false, false, false] rfl rfl (one_of HT_.out (by kernel_rfl)) (by decide) (fun K hK => ?_);refine goes_ Try.func33 (by kernel_rfl) rfl #[.agg #[.int .i64 ((rd_T47 l0_0 x27_1).f0), .slice A131_1 ((rd_T47 l0_0 x27_1).f1).length c131_1, .slice A131_2 ((rd_T47 l0_0 x27_1).f2).length c131_2]] (by rfl) rfl rfl mA ?_
                          with_reducible refine (textpatch_End.calls ((rd_T47 l0_0 x27_1).f0) _ _ ((rd_T47 l0_0 x27_1).f1) _ _ ((rd_T47 l0_0 x27_1).f2) t133 _ ?side1 ?side2 ?side3 ?side4 A34.out).mono ?_
                          (case side1 => exact cBe HR131_1);(case side2 => exact HC131_1.out);(case side3 => exact cBe HR131_2);(case side4 => exact HC131_2.out)
                          rintro e w82 ⟨rfl, hb⟩
                          refine ⟨_, rfl, ?_⟩;replace HO_8 := Aside0.mk (Kd.R_below (rK HO_8) hb);replace BK121 := lJ BK121 hb;replace BK122 := lJ BK122 hb;replace BK125 := lJ BK125 hb;replace BK132 := lJ BK132 hb;replace HB := sBe HB hb;(try clear hb);(try clear hb2);(try clear hk);(try clear hi);refine hK.out _ _ ⟨(blk_cell BK132.out 0).trans rfl, (blk_cell BK132.out 1).trans rfl, (blk_cell BK132.out 2).trans rfl⟩ (fun hHeld => ?_);clear hK K;refine norm_ (a' := ?_) ?_ ?_;rotate_left
                          · show Act.put _ (some 33) _ = _
                            simp only [Act.put, sA, sB, sC, i64_w, i32_w]
                            rfl
                          refine pA 4 36 (mb 17 31) HT_ rfl rfl ?_;refine pA 5 37 (mb 17 63) HT_ rfl rfl ?_;refine pA 6 38 (mb 17 127) HT_ rfl rfl ?_;refine pA 7 39 (mb 17 255) HT_ rfl rfl ?_;refine pA 12 44 (mb 17 4351) HT_ rfl rfl ?_;refine tA 8 40 (mb 17 4607) HT_ HW_ hHeld rfl rfl (by rintro w' ⟨s0, s1, s2⟩;go_simp;with_reducible rfl) ?_;refine tA 9 41 (mb 17 5119) HT_ HW_ hHeld rfl rfl (by rintro w' ⟨s0, s1, s2⟩;go_simp;with_reducible rfl) ?_;refine tA 13 45 (mb 17 13311) HT_ HW_ hHeld rfl rfl (by rintro w' ⟨s0, s1, s2⟩;go_simp;with_reducible rfl) ?_;refine one_ (i := 10) (N := some 42) #[true, true, true, true, true, true, true, true, true, true, true, false, true, true, false, false, false] rfl rfl (one_of HT_.out (by kernel_rfl)) (by decide) (fun K hK => ?_);refine goes_ Try.func33 (by kernel_rfl) rfl #[.agg #[.int .i64 ((rd_T47 l0_0 x27_1).f0), .slice A131_1 ((rd_T47 l0_0 x27_1).f1).length c131_1, .slice A131_2 ((rd_T47 l0_0 x27_1).f2).length c131_2]] (by rfl) rfl rfl mA ?_
                          with_reducible refine (textpatch_End.calls ((rd_T47 l0_0 x27_1).f0) _ _ ((rd_T47 l0_0 x27_1).f1) _ _ ((rd_T47 l0_0 x27_1).f2) t134 _ ?side1 ?side2 ?side3 ?side4 A47.out).mono ?_
                          (case side1 => exact cBe HR131_1);(case side2 => exact HC131_1.out);(case side3 => exact cBe HR131_2);(case side4 => exact HC131_2.out)
                          rintro e w83 ⟨rfl, hb⟩
                          refine ⟨_, rfl, ?_⟩;replace HO_8 := Aside0.mk (Kd.R_below (rK HO_8) hb);replace BK121 := lJ BK121 hb;replace BK122 := lJ BK122 hb;replace BK125 := lJ BK125 hb;replace BK132 := lJ BK132 hb;replace HB := sBe HB hb;(try clear hb);(try clear hb2);(try clear hk);(try clear hi);obtain ⟨i084, hi084, _, hsz84, _⟩ := info_parts info9;obtain ⟨A84, hcut84, hA84, hC84⟩ := print_mid_of (P := Try.prog) Value.string (⟨#[]⟩ : ByteArray) 25 9 .i64 .i64 Try.underlying25 hi084 hsz84 A1 c1 l1 ((rd_T47 l0_0 x27_1).f0) t134 (dA) (by first|omega|exact dA) (dA) HC1.out;have HR135 := Aside0.mk (Kd.C_of_reads (h1 := fun _ => rfl) (hA84 _ (Kd.reads_of_C HR1.out)));have HC135 := Aside0.mk hC84;clear hA84 hC84 hi084 hsz84;refine hK.out _ _ ⟨(blk_cell BK132.out 0).trans rfl, (blk_cell BK132.out 1).trans rfl, (blk_cell BK132.out 2).trans rfl⟩ (fun hHeld => ?_);clear hK K;refine norm_ (a' := ?_) ?_ ?_;rotate_left
                          · show Act.put _ (some 42) _ = _
                            simp only [Act.put, sA, sB, sC, i64_w, i32_w]
                            rfl
                          refine pA 11 43 (mb 17 16383) HT_ rfl rfl ?_;refine one_ (i := 14) (N := some 46) #[true, true, true, true, true, true, true, true, true, true, true, true, true, true, true, false, false] rfl rfl (one_of HT_.out (by kernel_rfl)) (by decide) (fun K hK => ?_);refine goes_ Try.func34 (by kernel_rfl) rfl #[.slice A84 ((l1.take (t134 : Int).toNat).drop (((rd_T47 l0_0 x27_1).f0) : Int).toNat).length (c1 - ((rd_T47 l0_0 x27_1).f0).toNat), .slice A131_1 ((rd_T47 l0_0 x27_1).f1).length c131_1] (by rfl) rfl rfl (by (try simp only [List.map_toArray, List.map_cons, List.map_nil]);first|done|(rw [show ((l1.take (t134 : Int).toNat).drop (((rd_T47 l0_0 x27_1).f0) : Int).toNat).length = (t134.toNat - ((rd_T47 l0_0 x27_1).f0).toNat) from (by rw [List.length_drop, List.length_take];have h_ : (t134 : Int) ≤ (l1.length : Int) := dA;omega)] <;> rfl)|rfl|(simp only [List.length_drop, List.length_take];rfl)) ?_
                          with_reducible refine (slices_Equal_string_string.calls _ _ ((l1.take (t134 : Int).toNat).drop (((rd_T47 l0_0 x27_1).f0) : Int).toNat) _ _ ((rd_T47 l0_0 x27_1).f1) false _ ?side1 ?side2 ?side3 ?side4 A51.out).mono ?_
                          (case side1 => exact cBe HR135);(case side2 => exact HC135.out);(case side3 => exact cBe HR131_1);(case side4 => exact HC131_1.out)
                          rintro e w' ⟨rfl, ⟨nd, rfl⟩⟩
                          refine ⟨_, rfl, ?_⟩;refine hK.out _ _ ⟨(blk_cell BK132.out 0).trans rfl, (blk_cell BK132.out 1).trans rfl, (blk_cell BK132.out 2).trans rfl⟩ (fun hHeld => ?_);clear hK K;refine norm_ (a' := ?_) ?_ ?_;rotate_left
                          · show Act.put _ (some 46) _ = _
                            simp only [Act.put, sA, sB, sC, i64_w, i32_w]
                            rfl
                          refine pA 15 47 (mb 17 65535) HT_ rfl rfl ?_;refine pA 16 48 (mb 17 131071) HT_ rfl rfl ?_;refine done_ (done_of HT_.out (by kernel_rfl)) ?_;have hnb85 := NB122_121.out;have hnc85 := NB121_122.out;have hnb86 := NB122_125.out;have hnc86 := NB125_122.out;have hcz87_0 := hC BK122 0 (.int .i64 x123000_1);have hcz87_1 := hC BK122 1 (.int .i64 x123001_1);have hfz87_0 := blk_frozen BK122.out 0;have hfz87_1 := blk_frozen BK122.out 1
                          try go_wp2
                          refine bodyPost_ret (results_tc rfl _ _ gb122 27 #[.int .i64 19, .int .i64 x27_1] (0, 0) _ rfl kK Try.underlying27 rfl (by kernel_rfl)) rfl ?_;exact ⟨_, rW, by first|exact Kd.R_nil _ _ _ _ _|exact Kd.N_nil _ _ _ _ _|exact Kd.V_nil _ _ _ _ _|exact Kd.Q_nil _ _ _ _ _|exact Kd.S_nil _ _ _ _ _, eB⟩
                      · rw [if_neg c50] at H;exact absurd H (by simp)
                    · rw [if_neg c49] at H;exact absurd H (by simp)
                  · rw [if_neg c48] at H;exact absurd H (by simp)
              · rw [if_neg c33] at H;exact absurd H (by simp)
            · rw [if_neg c32] at H;exact absurd H (by simp)
          · rw [if_neg c31] at H;have c31b0 : decide (x27_1 < (l0_0.length : Int)) = false := decide_eq_false c31;clear c31
            by_cases c88 : 0 ≤ x9_1
            · rw [if_pos c88] at H;have c88b0 := eq_true c88;have c88b1 : decide (0 ≤ x9_1) = true := decide_eq_true c88;clear c88
              by_cases c89 : x9_1 ≤ (l1.length : Int)
              · rw [if_pos c89] at H;have c89b0 := eq_true c89;have c89b1 : decide (x9_1 ≤ (l1.length : Int)) = true := decide_eq_true c89;clear c89
                by_cases c90 : x8_1.length + (l1.drop (x9_1 : Int).toNat).length < 8796093022208
                · rw [if_pos c90] at H;have LMc90 := Aside0.mk c90;clear c90;obtain ⟨y128, hy128⟩ : ∃ y_ : List ByteArray, y_ = (x8_1 ++ (l1.drop (x9_1 : Int).toNat)) := ⟨_, rfl⟩;replace H : (if (y128.length : Int) > 120 then (some (([] : List ByteArray), 10, (-1))) else (some (y128, 0, 0))) = some (r1, r2, r3) := (by first|(rw [hy128];with_reducible exact H)|(have H2_ := (Option.bind_some _ _).symm.trans H;rw [hy128];with_reducible exact H2_)|(have H2_ := (Option.bind_some _ _).symm.trans H;with_reducible exact H2_)|with_reducible exact H|(rw [hy128];exact H)|exact H);have Ny128 := Aside0.mk hy128;clear hy128
                  by_cases c91 : (y128.length : Int) > 120
                  · rw [if_pos c91] at H;have c91b0 : decide (120 < (y128.length : Int)) = true := decide_eq_true c91;have c91b1 : decide (120 < y128.length) = true := decide_eq_true (by omega);clear c91;simp only [Option.some.injEq, Prod.mk.injEq] at H;obtain ⟨rfl, rfl, rfl⟩ := H;obtain ⟨i092, hi092, _, hsz92, _⟩ := info_parts info9;obtain ⟨A92, hcut92, hA92, hC92⟩ := print_drop_of (P := Try.prog) Value.string (⟨#[]⟩ : ByteArray) 25 9 .i64 Try.underlying25 hi092 hsz92 A1 c1 l1 x9_1 (dA) (dA) HC1.out;have HR127 := Aside0.mk (Kd.C_of_reads (h1 := fun _ => rfl) (hA92 _ (Kd.reads_of_C HR1.out)));have HC127 := Aside0.mk hC92;clear hA92 hC92 hi092 hsz92
                    go_wp2_with (first|((with_reducible refine gate_builtin (b := .append) (xs := #[.tmp 64, .tmp 67]) rfl ?_);at_builtin;refine Kd.R_append_rows Kd.string (w0 := w) w.heap.size rfl (.tmp 64) (.tmp 67) 25 9 (.string ⟨#[]⟩) 16 rfl Try.underlying25 info9 rfl (by decide) (by omega) u8 x8_1 (l1.drop (x9_1 : Int).toNat) _ _ _ (fun _ => True) (fun _ => False) rfl rfl ?aO ?aR (fun _ _ h => h) (fun _ h => h.elim) ?aF ?aB ?aS ?aL ?_;(case aR => first|(rw [← show (l1.drop (x9_1 : Int).toNat).length = (l1.length - x9_1.toNat) from List.length_drop];repeat (first|exact (Kd.C_below HR127.out HB.out)|(with_reducible refine Kd.C_alloc ?_ _)|(with_reducible refine Kd.C_drewN ?_ _)|(with_reducible refine Kd.C_drew ?_)))|(repeat (first|exact (Kd.C_below HR127.out HB.out)|(with_reducible refine Kd.C_alloc ?_ _)|(with_reducible refine Kd.C_drewN ?_ _)|(with_reducible refine Kd.C_drew ?_))));(case aB => exact eB);(case aF => exact (fun _ _ => trivial));(case aO => exact (rK HO_8));(case aS => exact (below_size eB));(case aL => have := LMc90.out;have hlx_ := (show (l1.drop (x9_1 : Int).toNat).length = (l1.length - x9_1.toNat) from List.length_drop);omega);intro v129 w93 ho hb hg hat;rw [← Ny128.out] at ho;have n0_ := Aside0.mk (blk_grown (g := gb121) (o := .cells #[.slice A0_0 l0_0.length c0_0] 24 (0, 0)) kK hg (Kd.R_ne HO_8.out BK121.out (by decide)));have n1_ := Aside0.mk (blk_grown (g := gb122) (o := .cells #[.int .i64 x123000_1, .int .i64 x123001_1] 27 (0, 0)) kK hg (Kd.R_ne HO_8.out BK122.out (by decide)));have n2_ := Aside0.mk (blk_grown (g := gb125) (o := .cells #[.int .i64 t123, .int .i64 t124] 27 (0, 0)) kK hg (Kd.R_ne HO_8.out BK125.out (by decide)));have n3_ := Aside0.mk (hb);have n4_ := Aside0.mk (ho);clear BK121;clear BK122;clear BK125;clear HB;clear HO_8;have BK121 := n0_;have BK122 := n1_;have BK125 := n2_;have HB := n3_;have HO130 := n4_;clear n0_ n1_ n2_ n3_ n4_;clear ho hb hg hat;obtain ⟨Ao94, co94, eo94⟩ := Kd.R_slice HO130.out;subst eo94;have hnb95 := NB122_121.out;have hnc95 := NB121_122.out;have hnb96 := NB122_125.out;have hnc96 := NB125_122.out;have hcz97_0 := hC BK122 0 (.int .i64 x123000_1);have hcz97_1 := hC BK122 1 (.int .i64 x123001_1);have hfz97_0 := blk_frozen BK122.out 0;have hfz97_1 := blk_frozen BK122.out 1))
                    refine bodyPost_ret (results_tc rfl _ _ gb122 27 #[.int .i64 10, .int .i64 (-1)] (0, 0) _ rfl kK Try.underlying27 rfl (by kernel_rfl)) rfl ?_;exact ⟨_, rW, by first|exact Kd.R_nil _ _ _ _ _|exact Kd.N_nil _ _ _ _ _|exact Kd.V_nil _ _ _ _ _|exact Kd.Q_nil _ _ _ _ _|exact Kd.S_nil _ _ _ _ _, eB⟩
                  · rw [if_neg c91] at H;have c91b0 : decide (120 < (y128.length : Int)) = false := decide_eq_false c91;have c91b1 : decide (120 < y128.length) = false := decide_eq_false (by omega);clear c91;simp only [Option.some.injEq, Prod.mk.injEq] at H;obtain ⟨rfl, rfl, rfl⟩ := H;obtain ⟨i098, hi098, _, hsz98, _⟩ := info_parts info9;obtain ⟨A98, hcut98, hA98, hC98⟩ := print_drop_of (P := Try.prog) Value.string (⟨#[]⟩ : ByteArray) 25 9 .i64 Try.underlying25 hi098 hsz98 A1 c1 l1 x9_1 (dA) (dA) HC1.out;have HR127 := Aside0.mk (Kd.C_of_reads (h1 := fun _ => rfl) (hA98 _ (Kd.reads_of_C HR1.out)));have HC127 := Aside0.mk hC98;clear hA98 hC98 hi098 hsz98
                    go_wp2_with (first|((with_reducible refine gate_builtin (b := .append) (xs := #[.tmp 64, .tmp 67]) rfl ?_);at_builtin;refine Kd.R_append_rows Kd.string (w0 := w) w.heap.size rfl (.tmp 64) (.tmp 67) 25 9 (.string ⟨#[]⟩) 16 rfl Try.underlying25 info9 rfl (by decide) (by omega) u8 x8_1 (l1.drop (x9_1 : Int).toNat) _ _ _ (fun _ => True) (fun _ => False) rfl rfl ?aO ?aR (fun _ _ h => h) (fun _ h => h.elim) ?aF ?aB ?aS ?aL ?_;(case aR => first|(rw [← show (l1.drop (x9_1 : Int).toNat).length = (l1.length - x9_1.toNat) from List.length_drop];repeat (first|exact (Kd.C_below HR127.out HB.out)|(with_reducible refine Kd.C_alloc ?_ _)|(with_reducible refine Kd.C_drewN ?_ _)|(with_reducible refine Kd.C_drew ?_)))|(repeat (first|exact (Kd.C_below HR127.out HB.out)|(with_reducible refine Kd.C_alloc ?_ _)|(with_reducible refine Kd.C_drewN ?_ _)|(with_reducible refine Kd.C_drew ?_))));(case aB => exact eB);(case aF => exact (fun _ _ => trivial));(case aO => exact (rK HO_8));(case aS => exact (below_size eB));(case aL => have := LMc90.out;have hlx_ := (show (l1.drop (x9_1 : Int).toNat).length = (l1.length - x9_1.toNat) from List.length_drop);omega);intro v129 w99 ho hb hg hat;rw [← Ny128.out] at ho;have n0_ := Aside0.mk (blk_grown (g := gb121) (o := .cells #[.slice A0_0 l0_0.length c0_0] 24 (0, 0)) kK hg (Kd.R_ne HO_8.out BK121.out (by decide)));have n1_ := Aside0.mk (blk_grown (g := gb122) (o := .cells #[.int .i64 x123000_1, .int .i64 x123001_1] 27 (0, 0)) kK hg (Kd.R_ne HO_8.out BK122.out (by decide)));have n2_ := Aside0.mk (blk_grown (g := gb125) (o := .cells #[.int .i64 t123, .int .i64 t124] 27 (0, 0)) kK hg (Kd.R_ne HO_8.out BK125.out (by decide)));have n3_ := Aside0.mk (hb);have n4_ := Aside0.mk (ho);clear BK121;clear BK122;clear BK125;clear HB;clear HO_8;have BK121 := n0_;have BK122 := n1_;have BK125 := n2_;have HB := n3_;have HO130 := n4_;clear n0_ n1_ n2_ n3_ n4_;clear ho hb hg hat;obtain ⟨Ao100, co100, eo100⟩ := Kd.R_slice HO130.out;subst eo100;have hnb101 := NB122_121.out;have hnc101 := NB121_122.out;have hnb102 := NB122_125.out;have hnc102 := NB125_122.out;have hcz103_0 := hC BK122 0 (.int .i64 x123000_1);have hcz103_1 := hC BK122 1 (.int .i64 x123001_1);have hfz103_0 := blk_frozen BK122.out 0;have hfz103_1 := blk_frozen BK122.out 1))
                    refine bodyPost_ret (results_tc rfl _ _ gb122 27 #[.int .i64 0, .int .i64 0] (0, 0) _ rfl kK Try.underlying27 rfl (by kernel_rfl)) rfl ?_;exact ⟨_, rW, by (with_reducible repeat first|apply rA|apply rN|apply rD);exact Kd.R_mono (Kd.R_far (p := ⟨gb122, 1, none⟩) (Kd.R_far (p := ⟨gb122, 0, none⟩) (Kd.R_types HO130.out BK122.out (by decide)) (fun _ hk => hk.2) (.int .i64 0)) (fun _ hk => hk.2) (.int .i64 0)) (fun _ hk => trivial), eB⟩
                · rw [if_neg c90] at H;exact absurd H (by simp)
              · rw [if_neg c89] at H;exact absurd H (by simp)
            · rw [if_neg c88] at H;exact absurd H (by simp)
    · rw [if_neg c19] at H;have c19b0 : (t126 == 0) = false := beq_eq_false_iff_ne.mpr c19;have c19b1 : (t126 != 0) = true := bne_iff_ne.mpr c19;simp only [Option.some.injEq, Prod.mk.injEq] at H;obtain ⟨rfl, rfl, rfl⟩ := H
      go_enter Try.func15, Try.ntmps15
      go_wp2_with (first|((with_reducible refine gate_dst (N := 2) rfl ?_);refine bE 2 #[.slice A0_0 l0_0.length c0_0] 24 ?_;intro gb121 hg w104 hbox hb;have BK121 := Aside0.mk (hbox);have GW121 := gBe HB hg;have GE121 := gBe HB hg;replace HB := sBe HB hb;clear hb hbox hg)|((with_reducible refine gate_dst (N := 5) rfl ?_);refine bE 5 #[.int .i64 0, .int .i64 0] 27 ?_;intro gb122 hg w105 hbox hb;have BK122 := Aside0.mk (hbox);have GW122 := gBe HB hg;have GE122 := gBe HB hg;have NB121_122 := nL BK121 hg;have NB122_121 := nG BK121 hg;replace BK121 := lJ BK121 hb;replace HB := sBe HB hb;clear hb hbox hg;have hnb106 := NB121_122.out;have hnc106 := NB122_121.out;have hcz107_0 := hC BK121 0 (.slice A0_0 l0_0.length c0_0);have hfz107_0 := blk_frozen BK121.out 0)|((with_reducible refine gate_callee (f := 19) rfl ?_);refine goesL_ (some 13) rfl rfl Try.func19 (by kernel_rfl) rfl #[.agg #[.slice A0_0 l0_0.length c0_0]] rfl mA ?_;(with_reducible refine (textpatch_Validate.calls _ _ l0_0 t123 t124 _ ?side1 ?side2 A3.out).mono ?_);(case side1 => exact cBe HR0_0);(case side2 => exact HC0_0.out);rintro e w108 ⟨rfl, hb⟩;refine ⟨_, rfl, ?_⟩;replace BK121 := lJ BK121 hb;replace BK122 := lJ BK122 hb;replace HB := sBe HB hb;(try clear hb);(try clear hb2);(try clear hk);(try clear hi))|((with_reducible refine gate_dst (N := 6) rfl ?_);refine bE 6 #[.int .i64 0, .int .i64 0] 27 ?_;intro gb125 hg w109 hbox hb;have BK125 := Aside0.mk (hbox);have GW125 := gBe HB hg;have GE125 := gBe HB hg;have NB121_125 := nL BK121 hg;have NB125_121 := nG BK121 hg;have NB122_125 := nL BK122 hg;have NB125_122 := nG BK122 hg;replace BK121 := lJ BK121 hb;replace BK122 := lJ BK122 hb;replace HB := sBe HB hb;clear hb hbox hg;have hnb110 := NB125_121.out;have hnc110 := NB121_125.out;have hnb111 := NB125_122.out;have hnc111 := NB122_125.out;have hcz112_0 := hC BK125 0 (.int .i64 0);have hcz112_1 := hC BK125 1 (.int .i64 0);have hfz112_0 := blk_frozen BK125.out 0;have hfz112_1 := blk_frozen BK125.out 1)|((with_reducible refine gate_callee (f := 32) rfl ?_);refine goesL_ (some 19) rfl rfl Try.func32 (by kernel_rfl) rfl #[.slice A1 l1.length c1] rfl mA ?_;(with_reducible refine (lines_Code.calls _ _ l1 t126 _ ?side1 ?side2 A18.out).mono ?_);(case side1 => exact Kd.C_below HR1.out eB);(case side2 => exact HC1.out);rintro e w113 ⟨rfl, hb⟩;refine ⟨_, rfl, ?_⟩;replace BK121 := lJ BK121 hb;replace BK122 := lJ BK122 hb;replace BK125 := lK gb125 27 #[.int .i64 t123, .int .i64 t124] hb;replace HB := sBe HB hb;(try clear hb);(try clear hb2);(try clear hk);(try clear hi);have hcz114_0 := hC BK122 0 (.int .i64 0);have hcz114_1 := hC BK122 1 (.int .i64 0);have hfz114_0 := blk_frozen BK122.out 0;have hfz114_1 := blk_frozen BK122.out 1))
      refine bodyPost_ret (results_tc rfl _ _ gb122 27 #[.int .i64 t126, .int .i64 (-2)] (0, 0) _ rfl kK Try.underlying27 rfl (by kernel_rfl)) rfl ?_;exact ⟨_, rW, by first|exact Kd.R_nil _ _ _ _ _|exact Kd.N_nil _ _ _ _ _|exact Kd.V_nil _ _ _ _ _|exact Kd.Q_nil _ _ _ _ _|exact Kd.S_nil _ _ _ _ _, eB⟩

/-! ### textpatch_Apply: function 15 -/
theorem textpatch_Apply_0.loop (t : List ByteArray) (ht : t.length ≤ 120) (xs : List S47) (hl : xs.length ≤ 130) (d : Nat) : ∀ (k i : Nat) (at_ low : Int) (out : List ByteArray), i ≤ xs.length → xs.length - i = d → d < k →
    0 ≤ at_ → at_ ≤ low → at_ ≤ t.length → out.length ≤ 240 * i → okFrom ((xs.drop i).map (fun x_ : S47 => ((x_.f0, x_.f1, x_.f2) : Hk))) low → textpatch_Apply_0.l0 k t out at_ xs (xs.length : Int) (i : Int) = some (apGo t ((xs.drop i).map (fun x_ : S47 => ((x_.f0, x_.f1, x_.f2) : Hk))) at_ (i : Int) out) := by
  induction d with
  | zero =>
    intro k i at_ low out hi hd hk h0 h1 h2 h3 hok
    obtain ⟨k, rfl⟩ : ∃ m, k = m + 1 := ⟨k - 1, by omega⟩
    simp only [textpatch_Apply_0.l0]
    rw [if_neg (by omega), if_pos h0, if_pos h2, if_pos (by rw [List.length_drop]; omega), show xs.drop i = [] from List.drop_eq_nil_of_le (by omega)]
    simp only [Option.bind_some, List.map_nil, apGo]
    by_cases c : 120 < (out ++ t.drop at_.toNat).length
    · rw [if_pos (by omega), if_pos c]
    · rw [if_neg (by omega), if_neg c]
  | succ d ih =>
    intro k i at_ low out hi hd hk h0 h1 h2 h3 hok
    obtain ⟨k, rfl⟩ : ∃ m, k = m + 1 := ⟨k - 1, by omega⟩
    have hdr : xs.drop i = rd_T47 xs (i : Int) :: xs.drop (i + 1) := rdOf_drop z47 xs i (by omega)
    rw [hdr, List.map_cons] at hok ⊢
    simp only [textpatch_Apply_0.l0, textpatch_End.f, slices_Equal_string_string.f, Option.bind_some]
    generalize rd_T47 xs (i : Int) = h at *
    obtain ⟨⟨o1, o2, o3, o4, o5, o6, o7⟩, hok'⟩ := hok
    have l1 := (linesFault_ok.1 o4).1
    have l2 := (linesFault_ok.1 o5).1
    simp only at o1 o2 o3 l1 l2
    have he : hkEnd (h.f0, h.f1, h.f2) = h.f0 + (h.f1.length : Int) := rfl
    rw [if_pos (by omega), if_pos (by omega), if_pos (by omega), w64 (n := h.f0 + (h.f1.length : Int)) (by omega) (by omega), apGo, he]
    by_cases c1 : h.f0 + (h.f1.length : Int) ≤ t.length
    · rw [if_neg (by omega), if_pos (by omega), if_pos (by omega), if_pos c1]
      by_cases c2 : cutOut t h.f0 (h.f0 + (h.f1.length : Int)) = h.f1
      · have c2' : List.drop h.f0.toNat (List.take (h.f0 + (h.f1.length : Int)).toNat t) = h.f1 := c2
        rw [if_pos (by rw [c2']; simp), if_pos h0, if_pos (by omega), if_pos (by omega), if_pos (by rw [List.length_drop, List.length_take]; omega), if_pos (by rw [List.length_append, List.length_drop, List.length_take]; omega), if_pos ⟨c1, c2⟩, w64 (n := (i : Int) + 1) (by omega) (by omega)]
        have := ih k (i + 1) (h.f0 + (h.f1.length : Int)) (h.f0 + (h.f1.length : Int) + 1) (out ++ cutOut t at_ h.f0 ++ h.f2) (by omega) (by omega) (by omega) (by omega) (by omega) c1
          (by unfold cutOut; rw [List.length_append, List.length_append, List.length_drop, List.length_take]; omega) hok'
        rw [show ((i + 1 : Nat) : Int) = (i : Int) + 1 by omega] at this
        exact this
      · have c2' : ¬ List.drop h.f0.toNat (List.take (h.f0 + (h.f1.length : Int)).toNat t) = h.f1 := c2
        rw [if_neg (by simpa using c2'), if_neg (fun hh => c2 hh.2)]
    · rw [if_pos (by omega), if_neg (fun hh => c1 hh.1)]
def textpatch_Apply.f (l0_0 : List (S47)) (l1 : List ByteArray) : Option (List ByteArray × Int × Int) :=  some (applySpec (l0_0.map (fun x_ : S47 => ((x_.f0, x_.f1, x_.f2) : Hk))) l1)
theorem textpatch_Apply.calls (A0_0 : Option Addr) (c0_0 : Nat) (l0_0 : List (S47)) (A1 : Option Addr) (c1 : Nat) (l1 : List ByteArray) (r1 : List ByteArray) (r2 : Int) (r3 : Int) (w : World) (hr0_0 : Kd.C k47 w A0_0 l0_0.length l0_0) (hc0_0 : l0_0.length ≤ c0_0) (hr1 : Kd.C Kd.string w A1 l1.length l1) (hc1 : l1.length ≤ c1) (h : textpatch_Apply.f l0_0 l1 = some (r1, r2, r3)) :
    Calls Try.prog 15 #[.agg #[.slice A0_0 l0_0.length c0_0], .slice A1 l1.length c1] w fun e w' => ∃ v0_ : Value, e = .returned (.tuple #[v0_, .agg #[.int .i64 r2, .int .i64 r3]]) ∧ Kd.R Kd.string 9 w' w.heap.size (fun _ => True) v0_ r1 ∧ Below w.heap.size w w' := by
  have h' : textpatch_Apply_0.f 131 l0_0 l1 = some (r1, r2, r3) := by
    rw [← h]
    unfold textpatch_Apply_0.f textpatch_Apply.f applySpec
    simp only [textpatch_Validate.f, lines_Code.f, Option.bind_some, fault_ne (patchFault_or (l0_0.map (fun x_ : S47 => ((x_.f0, x_.f1, x_.f2) : Hk)))), decide_eq_true_iff]
    by_cases z : patchFault (l0_0.map (fun x_ : S47 => ((x_.f0, x_.f1, x_.f2) : Hk))) = (0, 0)
    · rw [if_neg (by simpa using z), if_pos z]
      by_cases c : (linesFault l1).1 = 0
      · rw [if_pos c, if_pos c]
        obtain ⟨z1, z2⟩ := patchFault_ok.1 z
        rw [List.length_map] at z1
        exact textpatch_Apply_0.loop l1 (linesFault_ok.1 (linesFault_zero c)).1 l0_0 z1 l0_0.length 131 0 0 0 [] (by omega) (by omega) (by omega) (by omega) (by omega) (by omega) (by simp) z2
      · rw [if_neg c, if_neg c]
    · rw [if_pos (by simpa using z), if_neg z]
  exact (textpatch_Apply_0.calls (131) A0_0 c0_0 l0_0 A1 c1 l1 r1 r2 r3 w hr0_0 hc0_0 hr1 hc1 (h'))


/-! ### changeforgeref1_At: function 36 -/
def changeforgeref1_At.f (a0 : Int) (a1 : Int) : Option (Int × Int) := some (a0, a1)
set_option maxHeartbeats 8000000 in
set_option maxRecDepth 100000 in
theorem changeforgeref1_At.calls (a0 : Int) (a1 : Int) (r1 : Int) (r2 : Int) (w : World) (h : changeforgeref1_At.f a0 a1 = some (r1, r2)) :
    Calls Try.prog 36 #[.int .i64 a0, .int .i64 a1] w fun e w' => e = .returned (.agg #[.int .i64 r1, .int .i64 r2]) ∧ Below w.heap.size w w' := by
  have hu27 := Try.underlying27
  have HB := Aside0.mk (Below.refl w.heap.size w)
  have H : (some (a0, a1)) = some (r1, r2) := h
  clear h
  simp only [Option.some.injEq, Prod.mk.injEq] at H
  obtain ⟨rfl, rfl⟩ := H
  go_enter Try.func36, Try.ntmps36
  go_wp2_with (first | ((with_reducible refine gate_dst (N := 4) rfl ?_); refine box_event ?hg (N := 4) ?hd (cs := #[.int .i64 0, .int .i64 0]) (t := 27) ?hr ?_; (case hd => rfl); (case hg => rfl); (case hr => first | (go_simp; done) | (go_simp; rfl)); intro gb145 hg w3 hbox hb; have n0_ := Aside0.mk (below_step (by repeat (first | (with_reducible first | exact HB.out | apply below_alloc | apply pw_below_drewN | apply below_drew1) | exact HB.out)) hb); have n1_ := Aside0.mk (hbox); have n2_ := Aside0.mk ((by rw [hg]; exact (below_size (by repeat (first | (with_reducible first | exact HB.out | apply below_alloc | apply pw_below_drewN | apply below_drew1) | exact HB.out))) : w.heap.size ≤ gb145)); have n3_ := Aside0.mk ((by rw [hg]; exact (below_size (by repeat (first | (with_reducible first | exact HB.out | apply below_alloc | apply pw_below_drewN | apply below_drew1) | exact HB.out))) : w.heap.size ≤ gb145)); clear HB; have HB := n0_; have BK145 := n1_; have GW145 := n2_; have GE145 := n3_; clear n0_ n1_ n2_ n3_; clear hb hbox hg; have hcz4_0 : w3.cell? ⟨gb145, 0, none⟩ = some (.int .i64 0) := (blk_cell BK145.out 0).trans rfl; have hcz4_1 : w3.cell? ⟨gb145, 1, none⟩ = some (.int .i64 0) := (blk_cell BK145.out 1).trans rfl; have hfz4_0 := blk_frozen BK145.out 0; have hfz4_1 := blk_frozen BK145.out 1))
  refine bodyPost_ret (results_cell_row rfl _ _ gb145 27 #[.int .i64 a0, .int .i64 a1] (0, 0) _ rfl (by (with_reducible repeat (first | refine blk_drewN ?_ _ | refine blk_drew ?_ | refine blk_alloc ?_ _)); refine blk_put (cs := #[.int .i64 a0, .int .i64 0]) ?_ 1 _ rfl; (with_reducible repeat (first | refine blk_drewN ?_ _ | refine blk_drew ?_ | refine blk_alloc ?_ _)); refine blk_put (cs := #[.int .i64 0, .int .i64 0]) ?_ 0 _ rfl; (with_reducible repeat (first | refine blk_drewN ?_ _ | refine blk_drew ?_ | refine blk_alloc ?_ _)); exact BK145.out) Try.underlying27 rfl (by kernel_rfl)) rfl ?_
  exact ⟨by first | rfl | (simp [errW_none, errW_some] <;> rfl) | (simp [*, errW_none, errW_some] <;> rfl), by repeat (first | (with_reducible first | exact HB.out | apply below_alloc | apply pw_below_drewN | apply below_drew1 | refine below_set ?_ GE145.out) | exact HB.out)⟩

/-! ### changeforgeref1_LinesFault_0: function 58 -/
mutual
def changeforgeref1_LinesFault_0.l0 : Nat → List ByteArray → Int → Option (Int × Int)
  | 0, _, _ => none
  | k + 1, x0, x3 => if x3 < (x0.length : Int) then (if 0 ≤ x3 then (if ((rdOf ByteArray.empty x0 x3).size : Int) > 80 then ((changeforgeref1_At.f 2 x3).bind fun bt150 => (some (bt150.1, bt150.2))) else (changeforgeref1_LinesFault_0.l1 k x0 x3 0)) else (none)) else (some (0, 0))
def changeforgeref1_LinesFault_0.l1 : Nat → List ByteArray → Int → Int → Option (Int × Int)
  | 0, _, _, _ => none
  | k + 1, x0, x3, x4 => if 0 ≤ x3 then (if x3 < (x0.length : Int) then (if x4 < ((rdOf ByteArray.empty x0 x3).size : Int) then (if 0 ≤ x4 then (if (bt (rdOf ByteArray.empty x0 x3) x4) = 10 then ((changeforgeref1_At.f 5 x3).bind fun bt154 => (some (bt154.1, bt154.2))) else (changeforgeref1_LinesFault_0.l1 k x0 x3 (wrap64 (x4 + 1)))) else (none)) else (changeforgeref1_LinesFault_0.l0 k x0 (wrap64 (x3 + 1)))) else (none)) else (none)
end
def changeforgeref1_LinesFault_0.f (k : Nat) (l0 : List ByteArray) : Option (Int × Int) := if (l0.length : Int) > 120 then ((changeforgeref1_At.f 2 (-1)).bind fun bt147 => (some (bt147.1, bt147.2))) else (changeforgeref1_LinesFault_0.l0 k l0 0)
theorem changeforgeref1_LinesFault_0.mono_l : ∀ k, (∀ y0 y1, LeO (changeforgeref1_LinesFault_0.l0 k y0 y1) (changeforgeref1_LinesFault_0.l0 (k + 1) y0 y1)) ∧ (∀ y0 y1 y2, LeO (changeforgeref1_LinesFault_0.l1 k y0 y1 y2) (changeforgeref1_LinesFault_0.l1 (k + 1) y0 y1 y2))
  | 0 => ⟨fun _ _ r h => by simp [changeforgeref1_LinesFault_0.l0] at h, fun _ _ _ r h => by simp [changeforgeref1_LinesFault_0.l1] at h⟩
  | k + 1 => by
    obtain ⟨ih0, ih1⟩ := changeforgeref1_LinesFault_0.mono_l k;refine ⟨?_, ?_⟩
    · intro y0 y1
      unfold changeforgeref1_LinesFault_0.l0
      repeat' first
      | (with_reducible exact ih0 _ _)
      | (with_reducible exact ih1 _ _ _)
      | (with_reducible exact LeO.refl _)
      | (with_reducible exact LeO.none _)
      | (with_reducible refine LeO.ite ?_ ?_)
      | (with_reducible refine LeO.bind ?_ (fun _ => ?_))
      | exact ih0 _ _
      | exact ih1 _ _ _
      | exact LeO.none _
      | refine LeO.ite ?_ ?_
      | refine LeO.bind ?_ (fun _ => ?_)
    · intro y0 y1 y2
      unfold changeforgeref1_LinesFault_0.l1
      repeat' first
      | (with_reducible exact ih0 _ _)
      | (with_reducible exact ih1 _ _ _)
      | (with_reducible exact LeO.refl _)
      | (with_reducible exact LeO.none _)
      | (with_reducible refine LeO.ite ?_ ?_)
      | (with_reducible refine LeO.bind ?_ (fun _ => ?_))
      | exact ih0 _ _
      | exact ih1 _ _ _
      | exact LeO.none _
      | refine LeO.ite ?_ ?_
      | refine LeO.bind ?_ (fun _ => ?_)
theorem changeforgeref1_LinesFault_0.mono : ∀ a0 k, LeO (changeforgeref1_LinesFault_0.f k a0) (changeforgeref1_LinesFault_0.f (k + 1) a0) := by
  intro a0 k
  obtain ⟨ih0, ih1⟩ := changeforgeref1_LinesFault_0.mono_l k
  unfold changeforgeref1_LinesFault_0.f
  repeat' first
      | (with_reducible exact ih0 _ _)
      | (with_reducible exact ih1 _ _ _)
      | (with_reducible exact LeO.refl _)
      | (with_reducible exact LeO.none _)
      | (with_reducible refine LeO.ite ?_ ?_)
      | (with_reducible refine LeO.bind ?_ (fun _ => ?_))
      | exact ih0 _ _
      | exact ih1 _ _ _
      | exact LeO.none _
      | refine LeO.ite ?_ ?_
      | refine LeO.bind ?_ (fun _ => ?_)
set_option maxHeartbeats 8000000 in
set_option maxRecDepth 100000 in
theorem changeforgeref1_LinesFault_0.calls (k : Nat) (A0 : Option Addr) (c0 : Nat) (l0 : List ByteArray) (r1 : Int) (r2 : Int) (w : World) (hr0 : Kd.C Kd.string w A0 l0.length l0) (hc0 : l0.length ≤ c0) (h : changeforgeref1_LinesFault_0.f k l0 = some (r1, r2)) :
    Calls Try.prog 58 #[.slice A0 l0.length c0] w fun e w' => e = .returned (.agg #[.int .i64 r1, .int .i64 r2]) ∧ Below w.heap.size w w' := by
  have hu27 := Try.underlying27;have HR0 := Aside0.mk hr0;have HC0 := Aside0.mk hc0;clear hr0 hc0;have HB := Aside0.mk (Below.refl w.heap.size w);have H : (if (l0.length : Int) > 120 then ((changeforgeref1_At.f 2 (-1)).bind fun bt147 => (some (bt147.1, bt147.2))) else (changeforgeref1_LinesFault_0.l0 k l0 0)) = some (r1, r2) := h;clear h
  by_cases c2 : (l0.length : Int) > 120
  · rw [if_pos c2] at H;have c2b0 : decide (120 < (l0.length : Int)) = true := decide_eq_true c2;have c2b1 : decide (120 < l0.length) = true := decide_eq_true (by omega);clear c2;replace H := Option.bind_eq_some_iff.mp H;obtain ⟨⟨t147, t148⟩, A30, H⟩ := H;replace H : (some (t147, t148)) = some (r1, r2) := H;have A3 := Aside0.mk A30;clear A30;simp only [Option.some.injEq, Prod.mk.injEq] at H;obtain ⟨rfl, rfl⟩ := H
    go_enter Try.func58, Try.ntmps58
    go_wp2_with (first|((with_reducible refine gate_dst (N := 2) rfl ?_);refine bE 2 #[.int .i64 0, .int .i64 0] 27 ?_;intro gb146 hg w4 hbox hb;have BK146 := Aside0.mk (hbox);have GW146 := gBe HB hg;have GE146 := gBe HB hg;replace HB := sBe HB hb;clear hb hbox hg)|((with_reducible refine gate_callee (f := 36) rfl ?_);refine goesL_ (some 8) rfl rfl Try.func36 (by kernel_rfl) rfl #[.int .i64 2, .int .i64 (-1)] rfl mA ?_;(with_reducible refine (changeforgeref1_At.calls 2 (-1) t147 t148 _ A3.out).mono ?_);rintro e w5 ⟨rfl, hb⟩;refine ⟨_, rfl, ?_⟩;replace BK146 := lJ BK146 hb;replace HB := sBe HB hb;(try clear hb);(try clear hb2);(try clear hk);(try clear hi);have hcz6_0 := hC BK146 0 (.int .i64 0);have hcz6_1 := hC BK146 1 (.int .i64 0);have hfz6_0 := blk_frozen BK146.out 0;have hfz6_1 := blk_frozen BK146.out 1))
    refine bodyPost_ret (results_cell_row rfl _ _ gb146 27 #[.int .i64 t147, .int .i64 t148] (0, 0) _ rfl kK Try.underlying27 rfl (by kernel_rfl)) rfl ?_;exact ⟨rW, eB⟩
  · rw [if_neg c2] at H;have c2b0 : decide (120 < (l0.length : Int)) = false := decide_eq_false c2;have c2b1 : decide (120 < l0.length) = false := decide_eq_false (by omega);clear c2;have H' := Aside0.mk H;clear H
    go_enter Try.func58, Try.ntmps58
    go_wp2_with (first|((with_reducible refine gate_dst (N := 2) rfl ?_);refine bE 2 #[.int .i64 0, .int .i64 0] 27 ?_;intro gb146 hg w7 hbox hb;have BK146 := Aside0.mk (hbox);have GW146 := gBe HB hg;have GE146 := gBe HB hg;replace HB := sBe HB hb;clear hb hbox hg))
    go_loopg [3] k (fun kq v3 w' => ∃ (x3_1 : Int) (x147000_1 : Int) (x147001_1 : Int), v3 = .int .i64 x3_1 ∧ Aside0 (changeforgeref1_LinesFault_0.l0 kq l0 x3_1 = some (r1, r2)) ∧ Aside0 (kq ≤ k) ∧ Aside0 (w'.heap[gb146]? = some (.cells #[.int .i64 x147000_1, .int .i64 x147001_1] 27 (0, 0))) ∧ Aside0 (Below w.heap.size w w'))
    case atStart => exact ⟨(0), (0), (0), (by first|rfl|(simp;done)|(simp [*];done)), H', ⟨Nat.le_refl _⟩, ⟨kK⟩, ⟨eB⟩⟩
    case round =>
      clear H'
      try clear c2
      try clear c2b0
      try clear c2b1
      try clear p2
      try clear c3
      try clear c5
      try clear hcz6_0
      try clear hcz6_1
      try clear hfz6_0
      try clear hfz6_1
      obtain ⟨x3_1, x147000_1, x147001_1, rfl, HA, HK1, BK146, HB⟩ := hrel
      cases gk with
      | zero => exact absurd HA.out (by simp [changeforgeref1_LinesFault_0.l0])
      | succ k1 =>
        have H := HA.out;clear HA;simp only [changeforgeref1_LinesFault_0.l0] at H
        by_cases c8 : x3_1 < (l0.length : Int)
        · rw [if_pos c8] at H;have c8b0 : decide (x3_1 < (l0.length : Int)) = true := decide_eq_true c8;clear c8
          by_cases c9 : 0 ≤ x3_1
          · rw [if_pos c9] at H;have c9b0 : decide (0 ≤ x3_1) = true := decide_eq_true c9;clear c9
            by_cases c10 : ((rdOf ByteArray.empty l0 x3_1).size : Int) > 80
            · rw [if_pos c10] at H;have c10b0 : decide (80 < ((rdOf ByteArray.empty l0 x3_1).size : Int)) = true := decide_eq_true c10;have c10b1 : decide (80 < (rdOf ByteArray.empty l0 x3_1).size) = true := decide_eq_true (by omega);clear c10;replace H := Option.bind_eq_some_iff.mp H;obtain ⟨⟨t150, t151⟩, A110, H⟩ := H;replace H : (some (t150, t151)) = some (r1, r2) := H;have A11 := Aside0.mk A110;clear A110;simp only [Option.some.injEq, Prod.mk.injEq] at H;obtain ⟨rfl, rfl⟩ := H;have p149 : 0 ≤ (x3_1 : Int) := dA;have q149 : x3_1 < (l0.length : Int) := dA;obtain ⟨ad149, e149, hx149_0⟩ := Kd.at_string HR0.out x3_1 p149 q149
              cases e149
              replace hx149_0 := (hX HB hx149_0:);replace p149 := eq_true p149;replace q149 := eq_true q149
              go_wp2_with (first|((with_reducible refine gate_callee (f := 36) rfl ?_);refine goesL_ (some 22) rfl rfl Try.func36 (by kernel_rfl) rfl #[.int .i64 2, .int .i64 x3_1] rfl mA ?_;(with_reducible refine (changeforgeref1_At.calls 2 x3_1 t150 t151 _ A11.out).mono ?_);rintro e w12 ⟨rfl, hb⟩;refine ⟨_, rfl, ?_⟩;replace BK146 := lJ BK146 hb;replace HB := sBe HB hb;(try clear hb);(try clear hb2);(try clear hk);(try clear hi);have hcz13_0 := hC BK146 0 (.int .i64 x147000_1);have hcz13_1 := hC BK146 1 (.int .i64 x147001_1);have hfz13_0 := blk_frozen BK146.out 0;have hfz13_1 := blk_frozen BK146.out 1))
              refine bodyPost_ret (results_cell_row rfl _ _ gb146 27 #[.int .i64 t150, .int .i64 t151] (0, 0) _ rfl kK Try.underlying27 rfl (by kernel_rfl)) rfl ?_;exact ⟨rW, eB⟩
            · rw [if_neg c10] at H;have c10b0 : decide (80 < ((rdOf ByteArray.empty l0 x3_1).size : Int)) = false := decide_eq_false c10;have c10b1 : decide (80 < (rdOf ByteArray.empty l0 x3_1).size) = false := decide_eq_false (by omega);clear c10;have H' := Aside0.mk H;clear H;have p149 : 0 ≤ (x3_1 : Int) := dA;have q149 : x3_1 < (l0.length : Int) := dA;obtain ⟨ad149, e149, hx149_0⟩ := Kd.at_string HR0.out x3_1 p149 q149
              cases e149
              replace hx149_0 := (hX HB hx149_0:);replace p149 := eq_true p149;replace q149 := eq_true q149
              go_wp2
              go_loopg [4] k1 (fun kq v4 w' => ∃ (x4_2 : Int) (x147000_2 : Int) (x147001_2 : Int), v4 = .int .i64 x4_2 ∧ Aside0 (changeforgeref1_LinesFault_0.l1 kq l0 x3_1 x4_2 = some (r1, r2)) ∧ Aside0 (kq ≤ k1) ∧ Aside0 (w'.heap[gb146]? = some (.cells #[.int .i64 x147000_2, .int .i64 x147001_2] 27 (0, 0))) ∧ Aside0 (Below w.heap.size w w'))
              case atStart => exact ⟨(0), (x147000_1), (x147001_1), (by first|rfl|(simp;done)|(simp [*];done)), H', ⟨Nat.le_refl _⟩, ⟨kK⟩, ⟨eB⟩⟩
              case round =>
                clear H'
                try clear c1
                try clear p1
                try clear q1
                try clear hx1
                try clear c2
                try clear c2b0
                try clear c2b1
                try clear p2
                try clear c3
                try clear c5
                try clear c8
                try clear c8b0
                try clear c9
                try clear c9b0
                try clear c10
                try clear c10b0
                try clear c10b1
                try clear hcz13_0
                try clear hcz13_1
                try clear hcz6_0
                try clear hcz6_1
                try clear hfz13_0
                try clear hfz13_1
                try clear hfz6_0
                try clear hfz6_1
                try clear hx149_0
                try clear p149
                try clear p2
                try clear q149
                obtain ⟨x4_2, x147000_2, x147001_2, rfl, HA, HK2, BK146, HB⟩ := hrel
                cases gk with
                | zero => exact absurd HA.out (by simp [changeforgeref1_LinesFault_0.l1])
                | succ k2 =>
                  have H := HA.out;clear HA;simp only [changeforgeref1_LinesFault_0.l1] at H
                  by_cases c14 : 0 ≤ x3_1
                  · rw [if_pos c14] at H;have c14b0 : decide (0 ≤ x3_1) = true := decide_eq_true c14;clear c14
                    by_cases c15 : x3_1 < (l0.length : Int)
                    · rw [if_pos c15] at H;have c15b0 : decide (x3_1 < (l0.length : Int)) = true := decide_eq_true c15;clear c15
                      by_cases c16 : x4_2 < ((rdOf ByteArray.empty l0 x3_1).size : Int)
                      · rw [if_pos c16] at H;have c16b0 : decide (x4_2 < ((rdOf ByteArray.empty l0 x3_1).size : Int)) = true := decide_eq_true c16;clear c16
                        by_cases c17 : 0 ≤ x4_2
                        · rw [if_pos c17] at H;have c17b0 : decide (0 ≤ x4_2) = true := decide_eq_true c17;clear c17
                          by_cases c19 : (bt (rdOf ByteArray.empty l0 x3_1) x4_2) = 10
                          · rw [if_pos c19] at H;have c19b0 : ((bt (rdOf ByteArray.empty l0 x3_1) x4_2) == 10) = true := beq_iff_eq.mpr c19;have c19b1 : ((bt (rdOf ByteArray.empty l0 x3_1) x4_2) != 10) = false := bne_eq_false_iff_eq.mpr c19;clear c19;replace H := Option.bind_eq_some_iff.mp H;obtain ⟨⟨t154, t155⟩, A200, H⟩ := H;replace H : (some (t154, t155)) = some (r1, r2) := H;have A20 := Aside0.mk A200;clear A200;simp only [Option.some.injEq, Prod.mk.injEq] at H;obtain ⟨rfl, rfl⟩ := H;have p152 : 0 ≤ (x3_1 : Int) := dA;have q152 : x3_1 < (l0.length : Int) := dA;obtain ⟨ad152, e152, hx152_0⟩ := Kd.at_string HR0.out x3_1 p152 q152;obtain rfl : ad149 = ad152 := (by injection e152);replace hx152_0 := (hX HB hx152_0:);replace p152 := eq_true p152;replace q152 := eq_true q152;have p153 : 0 ≤ (x3_1 : Int) := dA;have q153 : x3_1 < (l0.length : Int) := dA;obtain ⟨ad153, e153, hx153_0⟩ := Kd.at_string HR0.out x3_1 p153 q153;obtain rfl : ad149 = ad153 := (by injection e153);replace hx153_0 := (hX HB hx153_0:);replace p153 := eq_true p153;replace q153 := eq_true q153;have p18 : 0 ≤ (x4_2 : Int) := dA;have q18 : x4_2 < ((rdOf ByteArray.empty l0 x3_1).size : Int) := dA;have hx18 := bt_at (rdOf ByteArray.empty l0 x3_1) x4_2;replace p18 := eq_true p18;replace q18 := eq_true q18
                            go_wp2_with (first|((with_reducible refine gate_callee (f := 36) rfl ?_);refine goesL_ (some 40) rfl rfl Try.func36 (by kernel_rfl) rfl #[.int .i64 5, .int .i64 x3_1] rfl mA ?_;(with_reducible refine (changeforgeref1_At.calls 5 x3_1 t154 t155 _ A20.out).mono ?_);rintro e w21 ⟨rfl, hb⟩;refine ⟨_, rfl, ?_⟩;replace BK146 := lJ BK146 hb;replace HB := sBe HB hb;(try clear hb);(try clear hb2);(try clear hk);(try clear hi);have hcz22_0 := hC BK146 0 (.int .i64 x147000_2);have hcz22_1 := hC BK146 1 (.int .i64 x147001_2);have hfz22_0 := blk_frozen BK146.out 0;have hfz22_1 := blk_frozen BK146.out 1))
                            refine bodyPost_ret (results_cell_row rfl _ _ gb146 27 #[.int .i64 t154, .int .i64 t155] (0, 0) _ rfl kK Try.underlying27 rfl (by kernel_rfl)) rfl ?_;exact ⟨rW, eB⟩
                          · rw [if_neg c19] at H;have c19b0 : ((bt (rdOf ByteArray.empty l0 x3_1) x4_2) == 10) = false := beq_eq_false_iff_ne.mpr c19;have c19b1 : ((bt (rdOf ByteArray.empty l0 x3_1) x4_2) != 10) = true := bne_iff_ne.mpr c19;have H' := Aside0.mk H;clear H;have p152 : 0 ≤ (x3_1 : Int) := dA;have q152 : x3_1 < (l0.length : Int) := dA;obtain ⟨ad152, e152, hx152_0⟩ := Kd.at_string HR0.out x3_1 p152 q152;obtain rfl : ad149 = ad152 := (by injection e152);replace hx152_0 := (hX HB hx152_0:);replace p152 := eq_true p152;replace q152 := eq_true q152;have p153 : 0 ≤ (x3_1 : Int) := dA;have q153 : x3_1 < (l0.length : Int) := dA;obtain ⟨ad153, e153, hx153_0⟩ := Kd.at_string HR0.out x3_1 p153 q153;obtain rfl : ad149 = ad153 := (by injection e153);replace hx153_0 := (hX HB hx153_0:);replace p153 := eq_true p153;replace q153 := eq_true q153;have p18 : 0 ≤ (x4_2 : Int) := dA;have q18 : x4_2 < ((rdOf ByteArray.empty l0 x3_1).size : Int) := dA;have hx18 := bt_at (rdOf ByteArray.empty l0 x3_1) x4_2;replace p18 := eq_true p18;replace q18 := eq_true q18
                            go_wp2
                            go_roundg k2
                            case measure => have := HK1.out;have := HK2.out;omega
                            case rel => exact ⟨(wrap64 (x4_2 + 1)), (x147000_2), (x147001_2), (by first|rfl|(simp;done)|(simp [*];done)), H', ⟨by have := HK1.out;have := HK2.out;omega⟩, ⟨kK⟩, ⟨eB⟩⟩
                        · rw [if_neg c17] at H;exact absurd H (by simp)
                      · rw [if_neg c16] at H;have c16b0 : decide (x4_2 < ((rdOf ByteArray.empty l0 x3_1).size : Int)) = false := decide_eq_false c16;clear c16;have H' := Aside0.mk H;clear H;have p152 : 0 ≤ (x3_1 : Int) := dA;have q152 : x3_1 < (l0.length : Int) := dA;obtain ⟨ad152, e152, hx152_0⟩ := Kd.at_string HR0.out x3_1 p152 q152;obtain rfl : ad149 = ad152 := (by injection e152);replace hx152_0 := (hX HB hx152_0:);replace p152 := eq_true p152;replace q152 := eq_true q152
                        go_wp2
                        go_roundg k2
                        case measure => have := HK1.out;have := HK2.out;omega
                        case rel => exact ⟨(wrap64 (x3_1 + 1)), (x147000_2), (x147001_2), (by first|rfl|(simp;done)|(simp [*];done)), H', ⟨by have := HK1.out;have := HK2.out;omega⟩, ⟨kK⟩, ⟨eB⟩⟩
                    · rw [if_neg c15] at H;exact absurd H (by simp)
                  · rw [if_neg c14] at H;exact absurd H (by simp)
          · rw [if_neg c9] at H;exact absurd H (by simp)
        · rw [if_neg c8] at H;have c8b0 : decide (x3_1 < (l0.length : Int)) = false := decide_eq_false c8;clear c8;simp only [Option.some.injEq, Prod.mk.injEq] at H;obtain ⟨rfl, rfl⟩ := H;have hcz23_0 : wr.cell? ⟨gb146, 0, none⟩ = some (.int .i64 x147000_1) := (blk_cell BK146.out 0).trans rfl;have hcz23_1 : wr.cell? ⟨gb146, 1, none⟩ = some (.int .i64 x147001_1) := (blk_cell BK146.out 1).trans rfl;have hfz23_0 := blk_frozen BK146.out 0;have hfz23_1 := blk_frozen BK146.out 1
          go_wp2
          refine bodyPost_ret (results_cell_row rfl _ _ gb146 27 #[.int .i64 0, .int .i64 0] (0, 0) _ rfl kK Try.underlying27 rfl (by kernel_rfl)) rfl ?_;exact ⟨rW, eB⟩

/-! ### changeforgeref1_LinesFault: function 58 -/
theorem changeforgeref1_LinesFault_0.line (l : List ByteArray) (i : Nat) (hi : i < l.length) (hl : l.length ≤ 120) (hs : (rdOf ByteArray.empty l (i : Int)).size ≤ 80) (d : Nat) : ∀ (k j : Nat), j ≤ (rdOf ByteArray.empty l (i : Int)).size → (rdOf ByteArray.empty l (i : Int)).size - j = d → d < k →
    changeforgeref1_LinesFault_0.l1 k l (i : Int) (j : Int) = if ((rdOf ByteArray.empty l (i : Int)).data.toList.drop j).contains 10 = true then some (5, (i : Int)) else changeforgeref1_LinesFault_0.l0 (k - 1 - d) l ((i : Int) + 1) := by
  generalize hx : rdOf ByteArray.empty l (i : Int) = s at *
  induction d with
  | zero =>
    intro k j hj hd hk
    obtain ⟨k, rfl⟩ : ∃ m, k = m + 1 := ⟨k - 1, by omega⟩
    simp only [changeforgeref1_LinesFault_0.l1, hx]
    rw [if_pos (by omega), if_pos (by omega), if_neg (by omega), List.drop_eq_nil_of_le (by rw [data_length]; omega), w64 (by omega) (by omega)]
    simp
  | succ d ih =>
    intro k j hj hd hk
    obtain ⟨k, rfl⟩ : ∃ m, k = m + 1 := ⟨k - 1, by omega⟩
    obtain ⟨c, hc, hdr⟩ := bt_drop s j (by omega)
    simp only [changeforgeref1_LinesFault_0.l1, hx]
    rw [if_pos (by omega), if_pos (by omega), if_pos (by omega), if_pos (by omega), hc, hdr]
    by_cases e : c = 10
    · subst e
      rw [if_pos (by decide)]
      simp [changeforgeref1_At.f]
    · have e' : ¬ (c.toNat : Int) = 10 := fun h => e (by
        have : c.toNat = 10 := by omega
        exact UInt8.toNat_inj.mp (by rw [this]; rfl))
      rw [if_neg e', w64 (by omega) (by omega)]
      have := ih k (j + 1) (by omega) (by omega) (by omega)
      rw [Int.natCast_add] at this
      rw [show (((1 : Nat) : Int)) = 1 from rfl] at this
      rw [this, List.contains_cons, show ((10 : UInt8) == c) = false by simpa using fun h => e h.symm, Bool.false_or, show k + 1 - 1 - (d + 1) = k - 1 - d by omega]
theorem changeforgeref1_LinesFault_0.loop (l : List ByteArray) (hl : l.length ≤ 120) (d : Nat) : ∀ (k i : Nat), i ≤ l.length → l.length - i = d → 100 * d < k → changeforgeref1_LinesFault_0.l0 k l (i : Int) = some (faultAt (l.drop i) (i : Int)) := by
  induction d with
  | zero =>
    intro k i hi hd hk
    obtain ⟨k, rfl⟩ : ∃ m, k = m + 1 := ⟨k - 1, by omega⟩
    simp only [changeforgeref1_LinesFault_0.l0]
    rw [if_neg (by omega), List.drop_eq_nil_of_le (by omega)]
    rfl
  | succ d ih =>
    intro k i hi hd hk
    obtain ⟨k, rfl⟩ : ∃ m, k = m + 1 := ⟨k - 1, by omega⟩
    rw [rdOf_drop ByteArray.empty l i (by omega)]
    have hline := changeforgeref1_LinesFault_0.line l i (by omega) hl
    generalize hs : rdOf ByteArray.empty l (i : Int) = s at *
    simp only [changeforgeref1_LinesFault_0.l0, hs]
    rw [if_pos (by omega), if_pos (by omega)]
    simp only [faultAt]
    by_cases h1 : 80 < s.size
    · rw [if_pos (by omega), if_pos h1]
      rfl
    · rw [if_neg (by omega), if_neg h1]
      have := hline (by omega) s.size k 0 (by omega) (by omega) (by omega)
      rw [show ((0 : Nat) : Int) = 0 from rfl, List.drop_zero] at this
      rw [this]
      show (if hasNl s = true then _ else _) = _
      by_cases h2 : hasNl s = true
      · rw [if_pos h2, if_pos h2]
      · rw [if_neg h2, if_neg h2]
        have := ih (k - 1 - s.size) (i + 1) (by omega) (by omega) (by omega)
        rw [Int.natCast_add] at this
        exact this
def changeforgeref1_LinesFault.f (l0 : List ByteArray) : Option (Int × Int) :=  some (linesFault l0)
theorem changeforgeref1_LinesFault.calls (A0 : Option Addr) (c0 : Nat) (l0 : List ByteArray) (r1 : Int) (r2 : Int) (w : World) (hr0 : Kd.C Kd.string w A0 l0.length l0) (hc0 : l0.length ≤ c0) (h : changeforgeref1_LinesFault.f l0 = some (r1, r2)) :
    Calls Try.prog 58 #[.slice A0 l0.length c0] w fun e w' => e = .returned (.agg #[.int .i64 r1, .int .i64 r2]) ∧ Below w.heap.size w w' := by
  have h' : changeforgeref1_LinesFault_0.f 12001 l0 = some (r1, r2) := by
    rw [← h]
    unfold changeforgeref1_LinesFault_0.f changeforgeref1_LinesFault.f linesFault
    by_cases c : 120 < l0.length
    · rw [if_pos (by omega), if_pos c]
      rfl
    · rw [if_neg (by omega), if_neg c]
      exact changeforgeref1_LinesFault_0.loop l0 (by omega) l0.length 12001 0 (by omega) (by omega) (by omega)
  exact (changeforgeref1_LinesFault_0.calls (12001) A0 c0 l0 r1 r2 w hr0 hc0 (h'))


/-! ### changeforgeref1_LinesCode_0: function 35 -/
def changeforgeref1_LinesCode_0.f (l0 : List ByteArray) : Option (Int) := (changeforgeref1_LinesFault.f l0).bind fun bt156 => (some bt156.1)
set_option maxHeartbeats 8000000 in
set_option maxRecDepth 100000 in
theorem changeforgeref1_LinesCode_0.calls (A0 : Option Addr) (c0 : Nat) (l0 : List ByteArray) (r : Int) (w : World) (hr0 : Kd.C Kd.string w A0 l0.length l0) (hc0 : l0.length ≤ c0) (h : changeforgeref1_LinesCode_0.f l0 = some r) :
    Calls Try.prog 35 #[.slice A0 l0.length c0] w fun e w' => e = .returned (.int .i64 r) ∧ Below w.heap.size w w' := by
  have hu27 := Try.underlying27
  have HR0 := Aside0.mk hr0
  have HC0 := Aside0.mk hc0
  clear hr0 hc0
  have HB := Aside0.mk (Below.refl w.heap.size w)
  have H : ((changeforgeref1_LinesFault.f l0).bind fun bt156 => (some bt156.1)) = some r := h
  clear h
  replace H := Option.bind_eq_some_iff.mp H
  obtain ⟨⟨t156, t157⟩, A20, H⟩ := H
  replace H : (some t156) = some r := H
  have A2 := Aside0.mk A20
  clear A20
  obtain rfl := Option.some.inj H
  have hfd27_0_ := fun (a0_ a1_ : Int) (w_ : World) => (show (Instr.field 27 (.agg #[.int .i64 a0_, .int .i64 a1_]) 0).run Try.prog w_ = .ok (.int .i64 a0_) w_ by kernel_rfl)
  go_enter Try.func35, Try.ntmps35
  go_wp2_with (first | ((with_reducible refine gate_callee (f := 58) rfl ?_); refine goesL_ (some 4) rfl rfl Try.func58 (by kernel_rfl) rfl #[.slice A0 l0.length c0] rfl (by (try simp only [List.map_toArray, List.map_cons, List.map_nil]); first | done | rfl | (simp only [List.length_drop, List.length_take]; rfl)) ?_; (with_reducible refine (changeforgeref1_LinesFault.calls _ _ l0 t156 t157 _ ?side1 ?side2 A2.out).mono ?_); (case side1 => repeat (first | exact HR0.out | (with_reducible refine Kd.C_alloc ?_ _) | (with_reducible refine Kd.C_drewN ?_ _) | (with_reducible refine Kd.C_drew ?_))); (case side2 => exact HC0.out); rintro e w3 ⟨rfl, hb⟩; refine ⟨_, rfl, ?_⟩; have n0_ := Aside0.mk (below_step (by repeat (first | (with_reducible first | exact HB.out | apply below_alloc | apply pw_below_drewN | apply below_drew1) | exact HB.out)) hb); clear HB; have HB := n0_; clear n0_; (try clear hb); (try clear hb2); (try clear hk); (try clear hi)))
  go_ret
  exact ⟨by first | rfl | (simp [errW_none, errW_some] <;> rfl) | (simp [*, errW_none, errW_some] <;> rfl), by repeat (first | (with_reducible first | exact HB.out | apply below_alloc | apply pw_below_drewN | apply below_drew1) | exact HB.out)⟩

/-! ### changeforgeref1_LinesCode: function 35 -/
def changeforgeref1_LinesCode.f (l0 : List ByteArray) : Option (Int) :=  some (linesFault l0).1
theorem changeforgeref1_LinesCode.calls (A0 : Option Addr) (c0 : Nat) (l0 : List ByteArray) (r : Int) (w : World) (hr0 : Kd.C Kd.string w A0 l0.length l0) (hc0 : l0.length ≤ c0) (h : changeforgeref1_LinesCode.f l0 = some r) :
    Calls Try.prog 35 #[.slice A0 l0.length c0] w fun e w' => e = .returned (.int .i64 r) ∧ Below w.heap.size w w' := by
  have h' : changeforgeref1_LinesCode_0.f l0 = some r := h
  exact (changeforgeref1_LinesCode_0.calls A0 c0 l0 r w hr0 hc0 (h'))


/-! ### changeforgeref1_End: function 38 -/
def changeforgeref1_End.f (a0_0 : Int) (l0_1 : List ByteArray) (l0_2 : List ByteArray) : Option (Int) := some (wrap64 (a0_0 + (l0_1.length : Int)))
set_option maxHeartbeats 8000000 in
set_option maxRecDepth 100000 in
theorem changeforgeref1_End.calls (a0_0 : Int) (A0_1 : Option Addr) (c0_1 : Nat) (l0_1 : List ByteArray) (A0_2 : Option Addr) (c0_2 : Nat) (l0_2 : List ByteArray) (r : Int) (w : World) (hr0_1 : Kd.C Kd.string w A0_1 l0_1.length l0_1) (hc0_1 : l0_1.length ≤ c0_1) (hr0_2 : Kd.C Kd.string w A0_2 l0_2.length l0_2) (hc0_2 : l0_2.length ≤ c0_2) (h : changeforgeref1_End.f a0_0 l0_1 l0_2 = some r) :
    Calls Try.prog 38 #[.agg #[.int .i64 a0_0, .slice A0_1 l0_1.length c0_1, .slice A0_2 l0_2.length c0_2]] w fun e w' => e = .returned (.int .i64 r) ∧ Below w.heap.size w w' := by
  have hu47 := Try.underlying47;have HR0_1 := Aside0.mk hr0_1;have HC0_1 := Aside0.mk hc0_1;clear hr0_1 hc0_1;have HR0_2 := Aside0.mk hr0_2;have HC0_2 := Aside0.mk hc0_2;clear hr0_2 hc0_2;have HB := Aside0.mk (Below.refl w.heap.size w);have H : (some (wrap64 (a0_0 + (l0_1.length : Int)))) = some r := h;clear h;obtain rfl := Option.some.inj H
  go_enter Try.func38, Try.ntmps38
  go_wp2_with (first|((with_reducible refine gate_dst (N := 1) rfl ?_);refine bE 1 #[.int .i64 a0_0, .slice A0_1 l0_1.length c0_1, .slice A0_2 l0_2.length c0_2] 47 ?_;intro gb158 hg w2 hbox hb;have BK158 := Aside0.mk (hbox);have GW158 := gBe HB hg;have GE158 := gBe HB hg;replace HB := sBe HB hb;clear hb hbox hg;have hcz3_0 := hC BK158 0 (.int .i64 a0_0);have hcz3_1 := hC BK158 1 (.slice A0_1 l0_1.length c0_1);have hcz3_2 := hC BK158 2 (.slice A0_2 l0_2.length c0_2);have hfz3_0 := blk_frozen BK158.out 0;have hfz3_1 := blk_frozen BK158.out 1;have hfz3_2 := blk_frozen BK158.out 2))
  go_ret
  exact ⟨rW, eB⟩

end Go.Proofs.Ytdnnkhogpobjbaa.PM
