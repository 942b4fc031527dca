/- Printed by a program of this session out of the translation: Lean functions for Go functions, and proofs that the Go functions answer the same. -/
import Derived.Test.YtdefgagmgbkklaaPC0
import Derived.Test.YtdefgagmgbkklaaPC1
import Derived.Test.YtdefgagmgbkklaaPC2
namespace Go.Proofs.Ytdefgagmgbkklaa.PC
open Go.RowKit Go.Proofs.Ytdefgagmgbkklaa.Pre Go.Proofs.YtdefgagmgbkklaaW.PrintWords Go.Proofs.YtdefgagmgbkklaaW.PrintLast Go.Proofs.YtdefgagmgbkklaaW.PrintMore
attribute [local go_sem] max2_int min2_int max_two min_two max_three min_three max_four min_four   -- for this text's walks alone
set_option linter.unusedVariables false
set_option linter.unusedSimpArgs false

attribute [local go_sem high] eqA24
/-! ### lines_Common_0: function 33 -/
mutual
def lines_Common_0.j1 : Nat → List ByteArray → List ByteArray → Int → Int → Option (Int × Int × Int × Int)
  | 0, _, _, _, _ => none
  | k + 1, x0, x1, x8, x9 => lines_Common_0.l1 k x0 x1 x8 x9 0
def lines_Common_0.l1 : Nat → List ByteArray → List ByteArray → Int → Int → Int → Option (Int × Int × Int × Int)
  | 0, _, _, _, _, _ => none
  | k + 1, x0, x1, x8, x9, x10 => if x10 < (wrap64 (x8 - x9)) then (if 0 ≤ (wrap64 ((wrap64 ((x0.length : Int) - 1)) - x10)) then (if (wrap64 ((wrap64 ((x0.length : Int) - 1)) - x10)) < (x0.length : Int) then (if 0 ≤ (wrap64 ((wrap64 ((x1.length : Int) - 1)) - x10)) then (if (wrap64 ((wrap64 ((x1.length : Int) - 1)) - x10)) < (x1.length : Int) then (if (rdOf ByteArray.empty x0 (wrap64 ((wrap64 ((x0.length : Int) - 1)) - x10))).toList = (rdOf ByteArray.empty x1 (wrap64 ((wrap64 ((x1.length : Int) - 1)) - x10))).toList then (lines_Common_0.l1 k x0 x1 x8 x9 (wrap64 (x10 + 1))) else (some (x9, x10, 0, 0))) else (none)) else (none)) else (none)) else (none)) else (some (x9, x10, 0, 0))
def lines_Common_0.l0 : Nat → List ByteArray → List ByteArray → Int → Int → Option (Int × Int × Int × Int)
  | 0, _, _, _, _ => none
  | k + 1, x0, x1, x8, x9 => if x9 < x8 then (if 0 ≤ x9 then (if x9 < (x0.length : Int) then (if x9 < (x1.length : Int) then (if (rdOf ByteArray.empty x0 x9).toList = (rdOf ByteArray.empty x1 x9).toList then (lines_Common_0.l0 k x0 x1 x8 (wrap64 (x9 + 1))) else (lines_Common_0.j1 k x0 x1 x8 x9)) else (none)) else (none)) else (none)) else (lines_Common_0.j1 k x0 x1 x8 x9)
end
def lines_Common_0.f (k : Nat) (l0 : List ByteArray) (l1 : List ByteArray) : Option (Int × Int × Int × Int) := (lines_Two.f l0 l1).bind fun bt131 => (if (!(bt131.1 == 0) || (!(bt131.2 == 0))) = true then (some (0, 0, bt131.1, bt131.2)) else (lines_Common_0.l0 k l0 l1 (mn (l0.length : Int) (l1.length : Int)) 0))
theorem lines_Common_0.mono_l : ∀ k, (∀ y0 y1 y2 y3, LeO (lines_Common_0.j1 k y0 y1 y2 y3) (lines_Common_0.j1 (k + 1) y0 y1 y2 y3)) ∧ (∀ y0 y1 y2 y3 y4, LeO (lines_Common_0.l1 k y0 y1 y2 y3 y4) (lines_Common_0.l1 (k + 1) y0 y1 y2 y3 y4)) ∧ (∀ y0 y1 y2 y3, LeO (lines_Common_0.l0 k y0 y1 y2 y3) (lines_Common_0.l0 (k + 1) y0 y1 y2 y3))
  | 0 => ⟨fun _ _ _ _ r h => by simp [lines_Common_0.j1] at h, fun _ _ _ _ _ r h => by simp [lines_Common_0.l1] at h, fun _ _ _ _ r h => by simp [lines_Common_0.l0] at h⟩
  | k + 1 => by
    obtain ⟨ih0, ih1, ih2⟩ := lines_Common_0.mono_l k;refine ⟨?_, ?_, ?_⟩
    · intro y0 y1 y2 y3
      unfold lines_Common_0.j1
      repeat' first
      | (with_reducible exact ih0 _ _ _ _)
      | (with_reducible exact ih1 _ _ _ _ _)
      | (with_reducible exact ih2 _ _ _ _)
      | (with_reducible exact LeO.refl _)
      | (with_reducible exact LeO.none _)
      | (with_reducible refine LeO.ite ?_ ?_)
      | (with_reducible refine LeO.bind ?_ (fun _ => ?_))
      | exact ih0 _ _ _ _
      | exact ih1 _ _ _ _ _
      | exact ih2 _ _ _ _
      | exact LeO.none _
      | refine LeO.ite ?_ ?_
      | refine LeO.bind ?_ (fun _ => ?_)
    · intro y0 y1 y2 y3 y4
      unfold lines_Common_0.l1
      repeat' first
      | (with_reducible exact ih0 _ _ _ _)
      | (with_reducible exact ih1 _ _ _ _ _)
      | (with_reducible exact ih2 _ _ _ _)
      | (with_reducible exact LeO.refl _)
      | (with_reducible exact LeO.none _)
      | (with_reducible refine LeO.ite ?_ ?_)
      | (with_reducible refine LeO.bind ?_ (fun _ => ?_))
      | exact ih0 _ _ _ _
      | exact ih1 _ _ _ _ _
      | exact ih2 _ _ _ _
      | exact LeO.none _
      | refine LeO.ite ?_ ?_
      | refine LeO.bind ?_ (fun _ => ?_)
    · intro y0 y1 y2 y3
      unfold lines_Common_0.l0
      repeat' first
      | (with_reducible exact ih0 _ _ _ _)
      | (with_reducible exact ih1 _ _ _ _ _)
      | (with_reducible exact ih2 _ _ _ _)
      | (with_reducible exact LeO.refl _)
      | (with_reducible exact LeO.none _)
      | (with_reducible refine LeO.ite ?_ ?_)
      | (with_reducible refine LeO.bind ?_ (fun _ => ?_))
      | exact ih0 _ _ _ _
      | exact ih1 _ _ _ _ _
      | exact ih2 _ _ _ _
      | exact LeO.none _
      | refine LeO.ite ?_ ?_
      | refine LeO.bind ?_ (fun _ => ?_)
theorem lines_Common_0.mono : ∀ a0 a1 k, LeO (lines_Common_0.f k a0 a1) (lines_Common_0.f (k + 1) a0 a1) := by
  intro a0 a1 k
  obtain ⟨ih0, ih1, ih2⟩ := lines_Common_0.mono_l k
  unfold lines_Common_0.f
  repeat' first
      | (with_reducible exact ih0 _ _ _ _)
      | (with_reducible exact ih1 _ _ _ _ _)
      | (with_reducible exact ih2 _ _ _ _)
      | (with_reducible exact LeO.refl _)
      | (with_reducible exact LeO.none _)
      | (with_reducible refine LeO.ite ?_ ?_)
      | (with_reducible refine LeO.bind ?_ (fun _ => ?_))
      | exact ih0 _ _ _ _
      | exact ih1 _ _ _ _ _
      | exact ih2 _ _ _ _
      | exact LeO.none _
      | refine LeO.ite ?_ ?_
      | refine LeO.bind ?_ (fun _ => ?_)
def lines_Common_0.T6 : Bool × List (List Nat × List Nat) := (true, [([], []), ([], []), ([0, 1], [0, 1]), ([2], [2]), ([3], [3]), ([3], [3]), ([4, 5, 3], [3, 4, 5]), ([6, 3], [3, 6]), ([3], [3]), ([3], [3]), ([8, 9, 3], [3, 8, 9]), ([10, 3], [3, 10]), ([7, 11, 3], [3, 7, 11]), ([3, 12], [3, 12])])
def lines_Common_0.B6 : List Nat := [0, 0, 3, 7, 15, 15, 63, 127, 15, 15, 783, 1807, 4095, 8191]
theorem lines_Common_0.tab6 : rtab .any (opsOf Try.f33 6) = lines_Common_0.T6 := by kernel_rfl
theorem lines_Common_0.bits6 : waitsOk lines_Common_0.T6.2 lines_Common_0.B6 = true := by kernel_rfl
def lines_Common_0.T9 : Bool × List (List Nat × List Nat) := (true, [([], []), ([], []), ([], []), ([1, 2], [1, 2]), ([0, 3], [0, 3]), ([4], [4]), ([5], [5]), ([5], [5]), ([7, 5], [5, 7]), ([8, 5], [5, 8]), ([5], [5]), ([9, 10, 5], [5, 9, 10]), ([6, 11, 5], [5, 6, 11]), ([12, 5], [5, 12]), ([5], [5]), ([5], [5]), ([15, 5], [5, 15]), ([16, 5], [5, 16]), ([5], [5]), ([17, 18, 5], [5, 17, 18]), ([14, 19, 5], [5, 14, 19]), ([20, 5], [5, 20]), ([13, 21, 5], [5, 13, 21]), ([5, 22], [5, 22])])
def lines_Common_0.B9 : List Nat := [0, 0, 0, 6, 15, 31, 63, 63, 191, 447, 63, 1983, 4095, 8191, 63, 63, 32831, 98367, 63, 491583, 1032255, 2080831, 4194303, 8388607]
theorem lines_Common_0.tab9 : rtab .any (opsOf Try.f33 9) = lines_Common_0.T9 := by kernel_rfl
theorem lines_Common_0.bits9 : waitsOk lines_Common_0.T9.2 lines_Common_0.B9 = true := by kernel_rfl
set_option maxHeartbeats 8000000 in
set_option maxRecDepth 100000 in
theorem lines_Common_0.calls (k : Nat) (A0 : Option Addr) (c0 : Nat) (l0 : List ByteArray) (A1 : Option Addr) (c1 : Nat) (l1 : List ByteArray) (r1 : Int) (r2 : Int) (r3 : Int) (r4 : Int) (w : World) (hr0 : Kd.C Kd.string w A0 l0.length l0) (hc0 : l0.length ≤ c0) (hr1 : Kd.C Kd.string w A1 l1.length l1) (hc1 : l1.length ≤ c1) (h : lines_Common_0.f k l0 l1 = some (r1, r2, r3, r4)) :
    Calls Try.prog 33 #[.slice A0 l0.length c0, .slice A1 l1.length c1] w fun e w' => e = .returned (.tuple #[.int .i64 r1, .int .i64 r2, .agg #[.int .i64 r3, .int .i64 r4]]) ∧ Below w.heap.size w w' := by
  have hu24 := Try.underlying24;have HR0 := Aside0.mk hr0;have HC0 := Aside0.mk hc0;clear hr0 hc0;have HR1 := Aside0.mk hr1;have HC1 := Aside0.mk hc1;clear hr1 hc1;have HB := Aside0.mk (Below.refl w.heap.size w);have H : ((lines_Two.f l0 l1).bind fun bt131 => (if (!(bt131.1 == 0) || (!(bt131.2 == 0))) = true then (some (0, 0, bt131.1, bt131.2)) else (lines_Common_0.l0 k l0 l1 (mn (l0.length : Int) (l1.length : Int)) 0))) = some (r1, r2, r3, r4) := h;clear h;replace H := Option.bind_eq_some_iff.mp H;obtain ⟨⟨t131, t132⟩, A30, H⟩ := H;replace H : (if (!(t131 == 0) || (!(t132 == 0))) = true then (some (0, 0, t131, t132)) else (lines_Common_0.l0 k l0 l1 (mn (l0.length : Int) (l1.length : Int)) 0)) = some (r1, r2, r3, r4) := H;have A3 := Aside0.mk A30;clear A30
  by_cases c4 : (!(t131 == 0) || (!(t132 == 0))) = true
  · rw [if_pos c4] at H;have c4b0 : (!(t131 == 0) || (!(t132 == 0))) = true := c4;clear c4;simp only [Option.some.injEq, Prod.mk.injEq] at H;obtain ⟨rfl, rfl, rfl, rfl⟩ := H
    go_enter Try.func33, Try.ntmps33
    try go_wp2_with (first|((with_reducible refine gate_dst (N := 6) rfl ?_);(try (refine gate_guard (by rfl) ?_;dsimp only));refine bE 6 #[.int .i64 0, .int .i64 0] 24 ?_;intro gb130 hg w5 hbox hb;have BK130 := Aside0.mk (hbox);have GW130 := gBe HB hg;have GE130 := gBe HB hg;replace HB := sBe HB hb;clear hb hbox hg)|((with_reducible refine gate_callee (f := 45) rfl ?_);refine goesL_ (some 13) rfl rfl Try.func45 (by kernel_rfl) rfl #[.slice A0 l0.length c0, .slice A1 l1.length c1] rfl mA ?_;(with_reducible refine (lines_Two.calls _ _ l0 _ _ l1 t131 t132 _ ?side1 ?side2 ?side3 ?side4 A3.out).mono ?_);(case side1 => exact cBe HR0);(case side2 => exact HC0.out);(case side3 => exact cBe HR1);(case side4 => exact HC1.out);rintro e w6 ⟨rfl, hb⟩;refine ⟨_, rfl, ?_⟩;replace BK130 := lJ BK130 hb;replace HB := sBe HB hb;(try clear hb))|((with_reducible refine gate_dst (N := 7) rfl ?_);(try (refine gate_guard (by rfl) ?_;dsimp only));refine bE 7 #[.int .i64 0, .int .i64 0] 24 ?_;intro gb133 hg w7 hbox hb;have BK133 := Aside0.mk (hbox);have GW133 := gBe HB hg;have GE133 := gBe HB hg;have NB130_133 := nL BK130 hg;have NB133_130 := nG BK130 hg;replace BK130 := lJ BK130 hb;replace HB := sBe HB hb;clear hb hbox hg;have hnb8 := NB133_130.out;have hnc8 := NB130_133.out;have hcz9_0 := hC BK133 0 (.int .i64 0);have hcz9_1 := hC BK133 1 (.int .i64 0);have hfz9_0 := blk_frozen BK133.out 0;have hfz9_1 := blk_frozen BK133.out 1))
    obtain ⟨w10, hW_⟩ : ∃ w_, w_ = ((w7.setCell ⟨gb133, 0, none⟩ (.int .i64 t131)).setCell ⟨gb133, 1, none⟩ (.int .i64 t132)) := ⟨_, rfl⟩;have n0_ : Aside0 (w10.heap[gb130]? = some (.cells #[.int .i64 0, .int .i64 0] 24 (0, 0))) := ⟨by rw [hW_];exact kK⟩;have n1_ : Aside0 (w10.heap[gb133]? = some (.cells #[.int .i64 t131, .int .i64 t132] 24 (0, 0))) := ⟨by rw [hW_];exact kK⟩;have n2_ : Aside0 (Below w.heap.size w w10) := ⟨by rw [hW_];exact eB⟩;(try clear BK130);(try clear BK133);(try clear HB);(try rw [← hW_]);clear hW_;have BK130 := n0_;have BK133 := n1_;have HB := n2_;clear n0_ n1_ n2_;replace BK130 := Aside0.mk (blk_drew BK130.out);replace BK133 := Aside0.mk (blk_drew BK133.out);replace HB := Aside0.mk (below_drew1 HB.out);refine start_ (n := 4) (S := fun w' => w'.cell? ⟨gb133, 0, none⟩ = some (.int .i64 t131) ∧ w'.cell? ⟨gb133, 1, none⟩ = some (.int .i64 t132)) (ds := []) (mb 4 0) (by kernel_rfl) rfl (by kernel_rfl) ⟨(blk_cell BK133.out 0).trans rfl, (blk_cell BK133.out 1).trans rfl⟩ (fun hHeld => ?_);generalize w10.drew = w11 at BK130 BK133 HB hHeld ⊢;refine pB 1 4 (mb 4 2) rfl rfl ?_;refine pB 2 5 (mb 4 6) rfl rfl ?_;refine tB 0 17 (mb 4 7) hHeld rfl rfl (by rintro w' ⟨s0, s1⟩;go_simp;with_reducible rfl) ?_;refine one_ (i := 3) (N := none) (mb 4 15) rfl rfl (by kernel_rfl) (by decide) (fun K hK => ?_);have hs12 : w11.cell? ⟨gb130, 0, none⟩ = some (.int .i64 0) := (blk_cell BK130.out 0).trans rfl;have hfs12 := blk_frozen BK130.out 0;have hns12_1 := NB133_130.out;have hms12_1 := NB130_133.out;have hs13 : w11.cell? ⟨gb130, 1, none⟩ = some (.int .i64 0) := (blk_cell BK130.out 1).trans rfl;have hfs13 := blk_frozen BK130.out 1;have hns13_1 := NB133_130.out;have hms13_1 := NB130_133.out;refine skip_ (w1 := ?_) (by rfl) rfl ?_ ?_;rotate_left
    · go_simp
      rfl
    refine hK.out _ _ ⟨((cell_far (p := ⟨gb130, _, none⟩) NB133_130.out _).trans (((cell_far (p := ⟨gb130, _, none⟩) NB133_130.out _).trans (hHeld.1)))), ((cell_far (p := ⟨gb130, _, none⟩) NB133_130.out _).trans (((cell_far (p := ⟨gb130, _, none⟩) NB133_130.out _).trans (hHeld.2))))⟩ (fun hHeld => ?_);clear hK K;refine done_ (by kernel_rfl) ?_
    try go_wp2
    refine bodyPost_ret (results_list (rs := [.tmp 4, .tmp 5, .cell 6 24]) rfl (by simp) (.tmp (.tmp (.cell gb130 24 #[.int .i64 t131, .int .i64 t132] (0, 0) _ rfl kK Try.underlying24 rfl (by kernel_rfl) .nil)))) rfl ?_;exact ⟨rW, eB⟩
  · rw [if_neg c4] at H;have c4b0 : (!(t131 == 0) || (!(t132 == 0))) = false := (by simpa using c4);clear c4;obtain ⟨ji14, hji14⟩ : ∃ j_ : Int, (mn (l0.length : Int) (l1.length : Int)) = j_ := ⟨_, rfl⟩;replace H : (lines_Common_0.l0 k l0 l1 ji14 0) = some (r1, r2, r3, r4) := (by first|(rw [hji14] at H;exact H)|(simp only [hji14] at H ⊢;exact H));(try rw [hji14] at A3);(try (have hji14l : 0 ≤ ji14 := by (rw [← hji14];unfold mn;(repeat' split) <;> omega)));(try (have hji14m : 0 ≤ ji14 := by omega));have hji14_ : (if (l1.length : Int) < (l0.length : Int) then (l1.length : Int) else (l0.length : Int)) = ji14 := hji14;have hji14_n : (if l1.length < l0.length then (l1.length : Int) else (l0.length : Int)) = ji14 := (by (rw [← hji14_];by_cases c_ : l1.length < l0.length <;> simp [c_]));have HC15 := Aside0.mk H;clear H
    go_enter Try.func33, Try.ntmps33
    go_upto_block 0 with (first|((with_reducible refine gate_dst (N := 6) rfl ?_);(try (refine gate_guard (by rfl) ?_;dsimp only));refine bE 6 #[.int .i64 0, .int .i64 0] 24 ?_;intro gb130 hg w16 hbox hb;have BK130 := Aside0.mk (hbox);have GW130 := gBe HB hg;have GE130 := gBe HB hg;replace HB := sBe HB hb;clear hb hbox hg)|((with_reducible refine gate_callee (f := 45) rfl ?_);refine goesL_ (some 13) rfl rfl Try.func45 (by kernel_rfl) rfl #[.slice A0 l0.length c0, .slice A1 l1.length c1] rfl mA ?_;(with_reducible refine (lines_Two.calls _ _ l0 _ _ l1 t131 t132 _ ?side1 ?side2 ?side3 ?side4 A3.out).mono ?_);(case side1 => exact cBe HR0);(case side2 => exact HC0.out);(case side3 => exact cBe HR1);(case side4 => exact HC1.out);rintro e w17 ⟨rfl, hb⟩;refine ⟨_, rfl, ?_⟩;replace BK130 := lJ BK130 hb;replace HB := sBe HB hb;(try clear hb))|((with_reducible refine gate_dst (N := 7) rfl ?_);(try (refine gate_guard (by rfl) ?_;dsimp only));refine bE 7 #[.int .i64 0, .int .i64 0] 24 ?_;intro gb133 hg w18 hbox hb;have BK133 := Aside0.mk (hbox);have GW133 := gBe HB hg;have GE133 := gBe HB hg;have NB130_133 := nL BK130 hg;have NB133_130 := nG BK130 hg;replace BK130 := lJ BK130 hb;replace HB := sBe HB hb;clear hb hbox hg;have hnb19 := NB133_130.out;have hnc19 := NB130_133.out;have hcz20_0 := hC BK133 0 (.int .i64 0);have hcz20_1 := hC BK133 1 (.int .i64 0);have hfz20_0 := blk_frozen BK133.out 0;have hfz20_1 := blk_frozen BK133.out 1))
    (try simp only [Act.put, sA, sB, sC])
    go_cut [9] (fun v9 wc => ∃ (kq : Nat) (x9_14 : Int), v9 = .int .i64 x9_14 ∧ Aside0 (lines_Common_0.j1 kq l0 l1 ji14 x9_14 = some (r1, r2, r3, r4)) ∧ Aside0 (kq ≤ k) ∧ Aside0 (wc.heap[gb130]? = some (.cells #[.int .i64 0, .int .i64 0] 24 (0, 0))) ∧ Aside0 (wc.heap[gb133]? = some (.cells #[.int .i64 t131, .int .i64 t132] 24 (0, 0))) ∧ Aside0 (Below w.heap.size w wc))
    case first =>
      have H := HC15.out;clear HC15;have H' := Aside0.mk H;clear H
      go_wp2
      go_loopg [9] k (fun kq v9 w' => ∃ (x9_1 : Int), v9 = .int .i64 x9_1 ∧ Aside0 (lines_Common_0.l0 kq l0 l1 ji14 x9_1 = some (r1, r2, r3, r4)) ∧ Aside0 (kq ≤ k) ∧ Aside0 (w'.heap[gb130]? = some (.cells #[.int .i64 0, .int .i64 0] 24 (0, 0))) ∧ Aside0 (w'.heap[gb133]? = some (.cells #[.int .i64 t131, .int .i64 t132] 24 (0, 0))) ∧ Aside0 (Below w.heap.size w w'))
      case atStart => exact ⟨(0), (by first|rfl|(simp only [i64_w, i32_w];done)|(simp only [i64_w, i32_w];rfl)|(simp;done)|(simp [*];done)), H', ⟨Nat.le_refl _⟩, ⟨kK⟩, ⟨kK⟩, ⟨eB⟩⟩
      case round =>
        clear H'
        try clear c1
        try clear p2
        try clear c3
        try clear c4
        try clear c4b0
        try clear c8
        try clear c19
        try clear hcz20_0
        try clear hcz20_1
        try clear hcz9_0
        try clear hcz9_1
        try clear hfz20_0
        try clear hfz20_1
        try clear hfz9_0
        try clear hfz9_1
        obtain ⟨x9_1, rfl, HA, HK1, BK130, BK133, HB⟩ := hrel
        cases gk with
        | zero => exact absurd HA.out (by simp [lines_Common_0.l0])
        | succ k1 =>
          have H := HA.out;clear HA;simp only [lines_Common_0.l0] at H
          by_cases c21 : x9_1 < ji14
          · rw [if_pos c21] at H;have c21b0 : decide (x9_1 < ji14) = true := decide_eq_true c21;clear c21
            (first|rw [c21b0]|(simp only [i64_w, i32_w];rw [c21b0])|skip)
            by_cases c22 : 0 ≤ x9_1
            · rw [if_pos c22] at H;have c22b0 : decide (0 ≤ x9_1) = true := decide_eq_true c22;clear c22
              by_cases c23 : x9_1 < (l0.length : Int)
              · rw [if_pos c23] at H;have c23b0 : decide (x9_1 < (l0.length : Int)) = true := decide_eq_true c23;clear c23
                by_cases c24 : x9_1 < (l1.length : Int)
                · rw [if_pos c24] at H;have c24b0 : decide (x9_1 < (l1.length : Int)) = true := decide_eq_true c24;clear c24
                  by_cases c25 : (rdOf ByteArray.empty l0 x9_1).toList = (rdOf ByteArray.empty l1 x9_1).toList
                  · rw [if_pos c25] at H;have c25b0 : ((rdOf ByteArray.empty l0 x9_1).toList == (rdOf ByteArray.empty l1 x9_1).toList) = true := beq_iff_eq.mpr c25;have c25b1 : ((rdOf ByteArray.empty l0 x9_1).toList != (rdOf ByteArray.empty l1 x9_1).toList) = false := bne_eq_false_iff_eq.mpr c25;clear c25;have H' := Aside0.mk H;clear H
                    try go_wp2
                    replace BK130 := Aside0.mk (blk_drew BK130.out);replace BK133 := Aside0.mk (blk_drew BK133.out);replace HB := Aside0.mk (below_drew1 HB.out);have p134 : 0 ≤ (x9_1 : Int) := dA;have q134 : x9_1 < (l0.length : Int) := dA;obtain ⟨ad134, e134, hx134_0⟩ := Kd.at_string HR0.out x9_1 p134 q134;have hw134_0 := hx134_0
                    cases e134
                    replace hx134_0 := (hX HB hx134_0:);replace p134 := eq_true p134;replace q134 := eq_true q134;have p135 : 0 ≤ (x9_1 : Int) := dA;have q135 : x9_1 < (l1.length : Int) := dA;obtain ⟨ad135, e135, hx135_0⟩ := Kd.at_string HR1.out x9_1 p135 q135;have hw135_0 := hx135_0
                    cases e135
                    replace hx135_0 := (hX HB hx135_0:);replace p135 := eq_true p135;replace q135 := eq_true q135;refine start_ (n := 14) (S := fun w' => w'.cell? (ad134.add (x9_1).toNat) = some (.string (rdOf ByteArray.empty l0 x9_1)) ∧ w'.cell? (ad135.add (x9_1).toNat) = some (.string (rdOf ByteArray.empty l1 x9_1))) (ds := []) (mb 14 0) (by kernel_rfl) rfl (by kernel_rfl) ⟨(hX HB hw134_0:), (hX HB hw135_0:)⟩ (fun hHeld => ?_);refine with_tabW lines_Common_0.tab6 lines_Common_0.bits6 (fun HT_ HW_ => ?_);generalize wr.drew = w26 at BK130 BK133 HB hx134_0 hx135_0 hHeld ⊢;refine pA 0 23 (mb 14 1) HT_ rfl rfl ?_;refine pA 1 24 (mb 14 3) HT_ rfl rfl ?_;refine pA 2 25 (mb 14 7) HT_ rfl rfl ?_;refine pA 3 26 (mb 14 15) HT_ rfl rfl ?_;refine pA 4 27 (mb 14 31) HT_ rfl rfl ?_;refine pA 5 28 (mb 14 63) HT_ rfl rfl ?_;refine pA 6 29 (mb 14 127) HT_ rfl rfl ?_;refine pA 8 31 (mb 14 383) HT_ rfl rfl ?_;refine pA 9 32 (mb 14 895) HT_ rfl rfl ?_;refine pA 10 33 (mb 14 1919) HT_ rfl rfl ?_;refine tA 7 30 (mb 14 2047) HT_ HW_ hHeld rfl rfl (by rintro w' ⟨s0, s1⟩;go_simp;with_reducible rfl) ?_;refine tA 11 34 (mb 14 4095) HT_ HW_ hHeld rfl rfl (by rintro w' ⟨s0, s1⟩;go_simp;with_reducible rfl) ?_;refine pA 12 35 (mb 14 8191) HT_ rfl rfl ?_;refine pA 13 36 (mb 14 16383) HT_ rfl rfl ?_;refine done_ (done_of HT_.out (by kernel_rfl)) ?_
                    try go_wp2
                    go_roundg k1
                    case measure => have := HK1.out;omega
                    case rel => exact ⟨(wrap64 (x9_1 + 1)), (by first|rfl|(simp only [i64_w, i32_w];done)|(simp only [i64_w, i32_w];rfl)|(simp;done)|(simp [*];done)), H', ⟨by have := HK1.out;omega⟩, ⟨kK⟩, ⟨kK⟩, ⟨eB⟩⟩
                  · rw [if_neg c25] at H;have c25b0 : ((rdOf ByteArray.empty l0 x9_1).toList == (rdOf ByteArray.empty l1 x9_1).toList) = false := beq_eq_false_iff_ne.mpr c25;have c25b1 : ((rdOf ByteArray.empty l0 x9_1).toList != (rdOf ByteArray.empty l1 x9_1).toList) = true := bne_iff_ne.mpr c25;have H' := Aside0.mk H;clear H
                    try go_wp2
                    replace BK130 := Aside0.mk (blk_drew BK130.out);replace BK133 := Aside0.mk (blk_drew BK133.out);replace HB := Aside0.mk (below_drew1 HB.out);have p134 : 0 ≤ (x9_1 : Int) := dA;have q134 : x9_1 < (l0.length : Int) := dA;obtain ⟨ad134, e134, hx134_0⟩ := Kd.at_string HR0.out x9_1 p134 q134;have hw134_0 := hx134_0
                    cases e134
                    replace hx134_0 := (hX HB hx134_0:);replace p134 := eq_true p134;replace q134 := eq_true q134;have p135 : 0 ≤ (x9_1 : Int) := dA;have q135 : x9_1 < (l1.length : Int) := dA;obtain ⟨ad135, e135, hx135_0⟩ := Kd.at_string HR1.out x9_1 p135 q135;have hw135_0 := hx135_0
                    cases e135
                    replace hx135_0 := (hX HB hx135_0:);replace p135 := eq_true p135;replace q135 := eq_true q135;refine start_ (n := 14) (S := fun w' => w'.cell? (ad134.add (x9_1).toNat) = some (.string (rdOf ByteArray.empty l0 x9_1)) ∧ w'.cell? (ad135.add (x9_1).toNat) = some (.string (rdOf ByteArray.empty l1 x9_1))) (ds := []) (mb 14 0) (by kernel_rfl) rfl (by kernel_rfl) ⟨(hX HB hw134_0:), (hX HB hw135_0:)⟩ (fun hHeld => ?_);refine with_tabW lines_Common_0.tab6 lines_Common_0.bits6 (fun HT_ HW_ => ?_);generalize wr.drew = w27 at BK130 BK133 HB hx134_0 hx135_0 hHeld ⊢;refine pA 0 23 (mb 14 1) HT_ rfl rfl ?_;refine pA 1 24 (mb 14 3) HT_ rfl rfl ?_;refine pA 2 25 (mb 14 7) HT_ rfl rfl ?_;refine pA 3 26 (mb 14 15) HT_ rfl rfl ?_;refine pA 4 27 (mb 14 31) HT_ rfl rfl ?_;refine pA 5 28 (mb 14 63) HT_ rfl rfl ?_;refine pA 6 29 (mb 14 127) HT_ rfl rfl ?_;refine pA 8 31 (mb 14 383) HT_ rfl rfl ?_;refine pA 9 32 (mb 14 895) HT_ rfl rfl ?_;refine pA 10 33 (mb 14 1919) HT_ rfl rfl ?_;refine tA 7 30 (mb 14 2047) HT_ HW_ hHeld rfl rfl (by rintro w' ⟨s0, s1⟩;go_simp;with_reducible rfl) ?_;refine tA 11 34 (mb 14 4095) HT_ HW_ hHeld rfl rfl (by rintro w' ⟨s0, s1⟩;go_simp;with_reducible rfl) ?_;refine pA 12 35 (mb 14 8191) HT_ rfl rfl ?_;refine pA 13 36 (mb 14 16383) HT_ rfl rfl ?_;refine done_ (done_of HT_.out (by kernel_rfl)) ?_
                    try go_wp2
                    go_meet
                    case rel => exact ⟨_, (x9_1), (by first|rfl|(simp only [i64_w, i32_w];done)|(simp only [i64_w, i32_w];rfl)|(simp;done)|(simp [*];done)), H', ⟨by have := HK1.out;first|omega|exact Nat.le_refl _⟩, ⟨kK⟩, ⟨kK⟩, ⟨eB⟩⟩
                · rw [if_neg c24] at H;exact absurd H (by simp)
              · rw [if_neg c23] at H;exact absurd H (by simp)
            · rw [if_neg c22] at H;exact absurd H (by simp)
          · rw [if_neg c21] at H;have c21b0 : decide (x9_1 < ji14) = false := decide_eq_false c21;clear c21
            (first|rw [c21b0]|(simp only [i64_w, i32_w];rw [c21b0])|skip)
            have H' := Aside0.mk H;clear H
            try go_wp2
            replace BK130 := Aside0.mk (blk_drew BK130.out);replace BK133 := Aside0.mk (blk_drew BK133.out);replace HB := Aside0.mk (below_drew1 HB.out);refine start_ (n := 14) (S := fun w' => True) (ds := []) (mb 14 0) (by kernel_rfl) rfl (by kernel_rfl) trivial (fun hHeld => ?_);refine with_tabW lines_Common_0.tab6 lines_Common_0.bits6 (fun HT_ HW_ => ?_);generalize wr.drew = w28 at BK130 BK133 HB hHeld ⊢;refine pA 0 23 (mb 14 1) HT_ rfl rfl ?_;refine pA 1 24 (mb 14 3) HT_ rfl rfl ?_;refine pA 2 25 (mb 14 7) HT_ rfl rfl ?_;refine pA 3 26 (mb 14 15) HT_ rfl rfl ?_;refine pU 4 27 (mb 14 31) HT_ rfl rfl ?_;refine pU 5 28 (mb 14 63) HT_ rfl rfl ?_;refine pU 6 29 (mb 14 127) HT_ rfl rfl ?_;refine pU 7 30 (mb 14 255) HT_ rfl rfl ?_;refine pU 8 31 (mb 14 511) HT_ rfl rfl ?_;refine pU 9 32 (mb 14 1023) HT_ rfl rfl ?_;refine pU 10 33 (mb 14 2047) HT_ rfl rfl ?_;refine pU 11 34 (mb 14 4095) HT_ rfl rfl ?_;refine pU 12 35 (mb 14 8191) HT_ rfl rfl ?_;refine pA 13 36 (mb 14 16383) HT_ rfl rfl ?_;refine done_ (done_of HT_.out (by kernel_rfl)) ?_
            try go_wp2
            go_meet
            case rel => exact ⟨_, (x9_1), (by first|rfl|(simp only [i64_w, i32_w];done)|(simp only [i64_w, i32_w];rfl)|(simp;done)|(simp [*];done)), H', ⟨by have := HK1.out;first|omega|exact Nat.le_refl _⟩, ⟨kK⟩, ⟨kK⟩, ⟨eB⟩⟩
    case rest =>
      clear HC15
      try clear c1
      try clear p1
      try clear q1
      try clear hx1
      try clear c2
      try clear p2
      try clear c3
      try clear c4
      try clear c4b0
      try clear p6
      try clear c8
      try clear p13
      try clear q13
      try clear hx13
      try clear c19
      try clear c21
      try clear c21b0
      try clear c22
      try clear c22b0
      try clear c23
      try clear c23b0
      try clear c24
      try clear c24b0
      try clear c25
      try clear c25b0
      try clear c25b1
      try clear hcz20_0
      try clear hcz20_1
      try clear hcz9_0
      try clear hcz9_1
      try clear hfz20_0
      try clear hfz20_1
      try clear hfz9_0
      try clear hfz9_1
      try clear hx134_0
      try clear hx135_0
      try clear p134
      try clear p135
      try clear p2
      try clear q134
      try clear q135
      obtain ⟨kq, x9_14, rfl, HA, HJ14, BK130, BK133, HB⟩ := hcut
      cases kq with
      | zero => exact absurd HA.out (by simp [lines_Common_0.j1])
      | succ kj14 =>
        have H := HA.out;clear HA;simp only [lines_Common_0.j1] at H;have H' := Aside0.mk H;clear H
        go_wp2
        go_loopg [10] kj14 (fun kq v10 w' => ∃ (x10_2 : Int), v10 = .int .i64 x10_2 ∧ Aside0 (lines_Common_0.l1 kq l0 l1 ji14 x9_14 x10_2 = some (r1, r2, r3, r4)) ∧ Aside0 (kq ≤ kj14) ∧ Aside0 (w'.heap[gb130]? = some (.cells #[.int .i64 0, .int .i64 0] 24 (0, 0))) ∧ Aside0 (w'.heap[gb133]? = some (.cells #[.int .i64 t131, .int .i64 t132] 24 (0, 0))) ∧ Aside0 (Below w.heap.size w w'))
        case atStart => exact ⟨(0), (by first|rfl|(simp only [i64_w, i32_w];done)|(simp only [i64_w, i32_w];rfl)|(simp;done)|(simp [*];done)), H', ⟨Nat.le_refl _⟩, ⟨kK⟩, ⟨kK⟩, ⟨eB⟩⟩
        case round =>
          clear H'
          try clear c1
          try clear p1
          try clear q1
          try clear hx1
          try clear c2
          try clear p2
          try clear c3
          try clear c4
          try clear c4b0
          try clear p6
          try clear c8
          try clear p13
          try clear q13
          try clear hx13
          try clear c19
          try clear c21
          try clear c21b0
          try clear c22
          try clear c22b0
          try clear c23
          try clear c23b0
          try clear c24
          try clear c24b0
          try clear c25
          try clear c25b0
          try clear c25b1
          try clear hcz20_0
          try clear hcz20_1
          try clear hcz9_0
          try clear hcz9_1
          try clear hfz20_0
          try clear hfz20_1
          try clear hfz9_0
          try clear hfz9_1
          try clear hx134_0
          try clear hx135_0
          try clear p1
          try clear p13
          try clear p134
          try clear p135
          try clear p2
          try clear p6
          try clear q1
          try clear q13
          try clear q134
          try clear q135
          obtain ⟨x10_2, rfl, HA, HK2, BK130, BK133, HB⟩ := hrel
          cases gk with
          | zero => exact absurd HA.out (by simp [lines_Common_0.l1])
          | succ k2 =>
            have H := HA.out;clear HA;simp only [lines_Common_0.l1] at H
            by_cases c29 : x10_2 < (wrap64 (ji14 - x9_14))
            · rw [if_pos c29] at H;have c29b0 : decide (x10_2 < (wrap64 (ji14 - x9_14))) = true := decide_eq_true c29;clear c29;obtain ⟨ji30, hji30⟩ : ∃ j_ : Int, (wrap64 ((wrap64 ((l0.length : Int) - 1)) - x10_2)) = j_ := ⟨_, rfl⟩;replace H : (if 0 ≤ (ji30) then (if (ji30) < (l0.length : Int) then (if 0 ≤ (wrap64 ((wrap64 ((l1.length : Int) - 1)) - x10_2)) then (if (wrap64 ((wrap64 ((l1.length : Int) - 1)) - x10_2)) < (l1.length : Int) then (if (rdOf ByteArray.empty l0 (ji30)).toList = (rdOf ByteArray.empty l1 (wrap64 ((wrap64 ((l1.length : Int) - 1)) - x10_2))).toList then (lines_Common_0.l1 k2 l0 l1 ji14 x9_14 (wrap64 (x10_2 + 1))) else (some (x9_14, x10_2, 0, 0))) else (none)) else (none)) else (none)) else (none)) = some (r1, r2, r3, r4) := (by first|(rw [hji30] at H;exact H)|(simp only [hji30] at H ⊢;exact H));have hji30w : (IntKind.i64.wrap ((wrap64 ((l0.length : Int) - 1)) - x10_2)) = ji30 := (i64_w _).trans hji30
              by_cases c31 : 0 ≤ (ji30)
              · rw [if_pos c31] at H;have c31b0 : decide (0 ≤ (ji30)) = true := decide_eq_true c31;clear c31
                by_cases c32 : (ji30) < (l0.length : Int)
                · rw [if_pos c32] at H;have c32b0 : decide ((ji30) < (l0.length : Int)) = true := decide_eq_true c32;clear c32;obtain ⟨ji33, hji33⟩ : ∃ j_ : Int, (wrap64 ((wrap64 ((l1.length : Int) - 1)) - x10_2)) = j_ := ⟨_, rfl⟩;replace H : (if 0 ≤ (ji33) then (if (ji33) < (l1.length : Int) then (if (rdOf ByteArray.empty l0 (ji30)).toList = (rdOf ByteArray.empty l1 (ji33)).toList then (lines_Common_0.l1 k2 l0 l1 ji14 x9_14 (wrap64 (x10_2 + 1))) else (some (x9_14, x10_2, 0, 0))) else (none)) else (none)) = some (r1, r2, r3, r4) := (by first|(rw [hji33] at H;exact H)|(simp only [hji33] at H ⊢;exact H));have hji33w : (IntKind.i64.wrap ((wrap64 ((l1.length : Int) - 1)) - x10_2)) = ji33 := (i64_w _).trans hji33
                  by_cases c34 : 0 ≤ (ji33)
                  · rw [if_pos c34] at H;have c34b0 : decide (0 ≤ (ji33)) = true := decide_eq_true c34;clear c34
                    by_cases c35 : (ji33) < (l1.length : Int)
                    · rw [if_pos c35] at H;have c35b0 : decide ((ji33) < (l1.length : Int)) = true := decide_eq_true c35;clear c35
                      by_cases c36 : (rdOf ByteArray.empty l0 (ji30)).toList = (rdOf ByteArray.empty l1 (ji33)).toList
                      · rw [if_pos c36] at H;have c36b0 : ((rdOf ByteArray.empty l0 (ji30)).toList == (rdOf ByteArray.empty l1 (ji33)).toList) = true := beq_iff_eq.mpr c36;have c36b1 : ((rdOf ByteArray.empty l0 (ji30)).toList != (rdOf ByteArray.empty l1 (ji33)).toList) = false := bne_eq_false_iff_eq.mpr c36;clear c36;have H' := Aside0.mk H;clear H
                        try go_wp2
                        replace BK130 := Aside0.mk (blk_drew BK130.out);replace BK133 := Aside0.mk (blk_drew BK133.out);replace HB := Aside0.mk (below_drew1 HB.out);have p136 : 0 ≤ ((ji30) : Int) := dA;have q136 : (ji30) < (l0.length : Int) := dA;obtain ⟨ad136, e136, hx136_0⟩ := Kd.at_string HR0.out (ji30) p136 q136;have hw136_0 := hx136_0
                        cases e136
                        replace hx136_0 := (hX HB hx136_0:);replace p136 := eq_true p136;replace q136 := eq_true q136;have p137 : 0 ≤ ((ji33) : Int) := dA;have q137 : (ji33) < (l1.length : Int) := dA;obtain ⟨ad137, e137, hx137_0⟩ := Kd.at_string HR1.out (ji33) p137 q137;have hw137_0 := hx137_0
                        cases e137
                        replace hx137_0 := (hX HB hx137_0:);replace p137 := eq_true p137;replace q137 := eq_true q137;refine start_ (n := 24) (S := fun w' => w'.cell? (ad136.add ((ji30)).toNat) = some (.string (rdOf ByteArray.empty l0 (ji30))) ∧ w'.cell? (ad137.add ((ji33)).toNat) = some (.string (rdOf ByteArray.empty l1 (ji33)))) (ds := []) (mb 24 0) (by kernel_rfl) rfl (by kernel_rfl) ⟨(hX HB hw136_0:), (hX HB hw137_0:)⟩ (fun hHeld => ?_);refine with_tabW lines_Common_0.tab9 lines_Common_0.bits9 (fun HT_ HW_ => ?_);generalize wr.drew = w37 at BK130 BK133 HB hx136_0 hx137_0 hHeld ⊢;refine pA 0 39 (mb 24 1) HT_ rfl rfl ?_;refine pA 1 40 (mb 24 3) HT_ rfl rfl ?_;refine pA 2 41 (mb 24 7) HT_ rfl rfl ?_;refine pA 3 42 (mb 24 15) HT_ rfl rfl ?_;refine pA 4 43 (mb 24 31) HT_ rfl rfl ?_;refine pA 5 44 (mb 24 63) HT_ rfl rfl ?_;refine pA 6 45 (mb 24 127) HT_ rfl rfl ?_;refine pA 7 46 (mb 24 255) HT_ rfl rfl ?_;refine pA 8 47 (mb 24 511) HT_ rfl rfl ?_;refine pA 9 48 (mb 24 1023) HT_ rfl rfl ?_;refine pA 10 49 (mb 24 2047) HT_ rfl rfl ?_;refine pA 11 50 (mb 24 4095) HT_ rfl rfl ?_;refine pA 12 51 (mb 24 8191) HT_ rfl rfl ?_;refine pA 14 53 (mb 24 24575) HT_ rfl rfl ?_;refine pA 15 54 (mb 24 57343) HT_ rfl rfl ?_;refine pA 16 55 (mb 24 122879) HT_ rfl rfl ?_;refine pA 17 56 (mb 24 253951) HT_ rfl rfl ?_;refine pA 18 57 (mb 24 516095) HT_ rfl rfl ?_;refine pA 19 58 (mb 24 1040383) HT_ rfl rfl ?_;refine pA 20 59 (mb 24 2088959) HT_ rfl rfl ?_;refine tA 13 52 (mb 24 2097151) HT_ HW_ hHeld rfl rfl (by rintro w' ⟨s0, s1⟩;go_simp;with_reducible rfl) ?_;refine tA 21 60 (mb 24 4194303) HT_ HW_ hHeld rfl rfl (by rintro w' ⟨s0, s1⟩;go_simp;with_reducible rfl) ?_;refine pA 22 61 (mb 24 8388607) HT_ rfl rfl ?_;refine pA 23 62 (mb 24 16777215) HT_ rfl rfl ?_;refine done_ (done_of HT_.out (by kernel_rfl)) ?_
                        try go_wp2
                        go_roundg k2
                        case measure => have := HJ14.out;have := HK2.out;omega
                        case rel => exact ⟨(wrap64 (x10_2 + 1)), (by first|rfl|(simp only [i64_w, i32_w];done)|(simp only [i64_w, i32_w];rfl)|(simp;done)|(simp [*];done)), H', ⟨by have := HJ14.out;have := HK2.out;omega⟩, ⟨kK⟩, ⟨kK⟩, ⟨eB⟩⟩
                      · rw [if_neg c36] at H;have c36b0 : ((rdOf ByteArray.empty l0 (ji30)).toList == (rdOf ByteArray.empty l1 (ji33)).toList) = false := beq_eq_false_iff_ne.mpr c36;have c36b1 : ((rdOf ByteArray.empty l0 (ji30)).toList != (rdOf ByteArray.empty l1 (ji33)).toList) = true := bne_iff_ne.mpr c36;simp only [Option.some.injEq, Prod.mk.injEq] at H;obtain ⟨rfl, rfl, rfl, rfl⟩ := H
                        try go_wp2
                        replace BK130 := Aside0.mk (blk_drew BK130.out);replace BK133 := Aside0.mk (blk_drew BK133.out);replace HB := Aside0.mk (below_drew1 HB.out);have p136 : 0 ≤ ((ji30) : Int) := dA;have q136 : (ji30) < (l0.length : Int) := dA;obtain ⟨ad136, e136, hx136_0⟩ := Kd.at_string HR0.out (ji30) p136 q136;have hw136_0 := hx136_0
                        cases e136
                        replace hx136_0 := (hX HB hx136_0:);replace p136 := eq_true p136;replace q136 := eq_true q136;have p137 : 0 ≤ ((ji33) : Int) := dA;have q137 : (ji33) < (l1.length : Int) := dA;obtain ⟨ad137, e137, hx137_0⟩ := Kd.at_string HR1.out (ji33) p137 q137;have hw137_0 := hx137_0
                        cases e137
                        replace hx137_0 := (hX HB hx137_0:);replace p137 := eq_true p137;replace q137 := eq_true q137;refine start_ (n := 24) (S := fun w' => w'.cell? (ad136.add ((ji30)).toNat) = some (.string (rdOf ByteArray.empty l0 (ji30))) ∧ w'.cell? (ad137.add ((ji33)).toNat) = some (.string (rdOf ByteArray.empty l1 (ji33)))) (ds := []) (mb 24 0) (by kernel_rfl) rfl (by kernel_rfl) ⟨(hX HB hw136_0:), (hX HB hw137_0:)⟩ (fun hHeld => ?_);refine with_tabW lines_Common_0.tab9 lines_Common_0.bits9 (fun HT_ HW_ => ?_);generalize wr.drew = w38 at BK130 BK133 HB hx136_0 hx137_0 hHeld ⊢;refine pA 0 39 (mb 24 1) HT_ rfl rfl ?_;refine pA 1 40 (mb 24 3) HT_ rfl rfl ?_;refine pA 2 41 (mb 24 7) HT_ rfl rfl ?_;refine pA 3 42 (mb 24 15) HT_ rfl rfl ?_;refine pA 4 43 (mb 24 31) HT_ rfl rfl ?_;refine pA 5 44 (mb 24 63) HT_ rfl rfl ?_;refine pA 6 45 (mb 24 127) HT_ rfl rfl ?_;refine pA 7 46 (mb 24 255) HT_ rfl rfl ?_;refine pA 8 47 (mb 24 511) HT_ rfl rfl ?_;refine pA 9 48 (mb 24 1023) HT_ rfl rfl ?_;refine pA 10 49 (mb 24 2047) HT_ rfl rfl ?_;refine pA 11 50 (mb 24 4095) HT_ rfl rfl ?_;refine pA 12 51 (mb 24 8191) HT_ rfl rfl ?_;refine pA 14 53 (mb 24 24575) HT_ rfl rfl ?_;refine pA 15 54 (mb 24 57343) HT_ rfl rfl ?_;refine pA 16 55 (mb 24 122879) HT_ rfl rfl ?_;refine pA 17 56 (mb 24 253951) HT_ rfl rfl ?_;refine pA 18 57 (mb 24 516095) HT_ rfl rfl ?_;refine pA 19 58 (mb 24 1040383) HT_ rfl rfl ?_;refine pA 20 59 (mb 24 2088959) HT_ rfl rfl ?_;refine tA 13 52 (mb 24 2097151) HT_ HW_ hHeld rfl rfl (by rintro w' ⟨s0, s1⟩;go_simp;with_reducible rfl) ?_;refine tA 21 60 (mb 24 4194303) HT_ HW_ hHeld rfl rfl (by rintro w' ⟨s0, s1⟩;go_simp;with_reducible rfl) ?_;refine pA 22 61 (mb 24 8388607) HT_ rfl rfl ?_;refine pA 23 62 (mb 24 16777215) HT_ rfl rfl ?_;refine done_ (done_of HT_.out (by kernel_rfl)) ?_;have hnb39 := NB130_133.out;have hnc39 := NB133_130.out;have hcz40_0 := hC BK130 0 (.int .i64 0);have hcz40_1 := hC BK130 1 (.int .i64 0);have hfz40_0 := blk_frozen BK130.out 0;have hfz40_1 := blk_frozen BK130.out 1
                        try go_wp2
                        refine bodyPost_ret (results_list (rs := [.tmp 4, .tmp 5, .cell 6 24]) rfl (by simp) (.tmp (.tmp (.cell gb130 24 #[.int .i64 0, .int .i64 0] (0, 0) _ rfl kK Try.underlying24 rfl (by kernel_rfl) .nil)))) rfl ?_;exact ⟨by first|rfl|(simp [errW_none, errW_some] <;> rfl)|(simp only [← hji14, ← hji30, ← hji33];first|rfl|(simp [errW_none, errW_some] <;> rfl))|(simp [*, errW_none, errW_some] <;> rfl), eB⟩
                    · rw [if_neg c35] at H;exact absurd H (by simp)
                  · rw [if_neg c34] at H;exact absurd H (by simp)
                · rw [if_neg c32] at H;exact absurd H (by simp)
              · rw [if_neg c31] at H;exact absurd H (by simp)
            · rw [if_neg c29] at H;have c29b0 : decide (x10_2 < (wrap64 (ji14 - x9_14))) = false := decide_eq_false c29;clear c29;simp only [Option.some.injEq, Prod.mk.injEq] at H;obtain ⟨rfl, rfl, rfl, rfl⟩ := H
              try go_wp2
              replace BK130 := Aside0.mk (blk_drew BK130.out);replace BK133 := Aside0.mk (blk_drew BK133.out);replace HB := Aside0.mk (below_drew1 HB.out);refine start_ (n := 24) (S := fun w' => True) (ds := []) (mb 24 0) (by kernel_rfl) rfl (by kernel_rfl) trivial (fun hHeld => ?_);refine with_tabW lines_Common_0.tab9 lines_Common_0.bits9 (fun HT_ HW_ => ?_);generalize wr.drew = w41 at BK130 BK133 HB hHeld ⊢;refine pA 0 39 (mb 24 1) HT_ rfl rfl ?_;refine pA 1 40 (mb 24 3) HT_ rfl rfl ?_;refine pA 2 41 (mb 24 7) HT_ rfl rfl ?_;refine pA 3 42 (mb 24 15) HT_ rfl rfl ?_;refine pA 4 43 (mb 24 31) HT_ rfl rfl ?_;refine pA 5 44 (mb 24 63) HT_ rfl rfl ?_;refine pU 6 45 (mb 24 127) HT_ rfl rfl ?_;refine pU 7 46 (mb 24 255) HT_ rfl rfl ?_;refine pU 8 47 (mb 24 511) HT_ rfl rfl ?_;refine pU 9 48 (mb 24 1023) HT_ rfl rfl ?_;refine pU 10 49 (mb 24 2047) HT_ rfl rfl ?_;refine pU 11 50 (mb 24 4095) HT_ rfl rfl ?_;refine pU 12 51 (mb 24 8191) HT_ rfl rfl ?_;refine pU 13 52 (mb 24 16383) HT_ rfl rfl ?_;refine pU 14 53 (mb 24 32767) HT_ rfl rfl ?_;refine pU 15 54 (mb 24 65535) HT_ rfl rfl ?_;refine pU 16 55 (mb 24 131071) HT_ rfl rfl ?_;refine pU 17 56 (mb 24 262143) HT_ rfl rfl ?_;refine pU 18 57 (mb 24 524287) HT_ rfl rfl ?_;refine pU 19 58 (mb 24 1048575) HT_ rfl rfl ?_;refine pU 20 59 (mb 24 2097151) HT_ rfl rfl ?_;refine pU 21 60 (mb 24 4194303) HT_ rfl rfl ?_;refine pU 22 61 (mb 24 8388607) HT_ rfl rfl ?_;refine pA 23 62 (mb 24 16777215) HT_ rfl rfl ?_;refine done_ (done_of HT_.out (by kernel_rfl)) ?_;have hnb42 := NB130_133.out;have hnc42 := NB133_130.out;have hcz43_0 := hC BK130 0 (.int .i64 0);have hcz43_1 := hC BK130 1 (.int .i64 0);have hfz43_0 := blk_frozen BK130.out 0;have hfz43_1 := blk_frozen BK130.out 1
              try go_wp2
              refine bodyPost_ret (results_list (rs := [.tmp 4, .tmp 5, .cell 6 24]) rfl (by simp) (.tmp (.tmp (.cell gb130 24 #[.int .i64 0, .int .i64 0] (0, 0) _ rfl kK Try.underlying24 rfl (by kernel_rfl) .nil)))) rfl ?_;exact ⟨by first|rfl|(simp [errW_none, errW_some] <;> rfl)|(simp only [← hji14];first|rfl|(simp [errW_none, errW_some] <;> rfl))|(simp [*, errW_none, errW_some] <;> rfl), eB⟩

/-! ### lines_Common: function 33 -/
theorem lines_Common_0.suf (a b : List ByteArray) (ha : a.length ≤ 120) (hb : b.length ≤ 120) (p : Nat) (hp1 : p ≤ a.length) (hp2 : p ≤ b.length) (sh : Nat) (hsh : sh = min a.length b.length) (d : Nat) : ∀ (k s : Nat), s + p ≤ sh → sh - p - s = d → d < k →
    lines_Common_0.l1 k a b (sh : Int) (p : Int) (s : Int) = some ((p : Int), ((s + cpre ((a.drop p).reverse.drop s) ((b.drop p).reverse.drop s) : Nat) : Int), 0, 0) := by
  induction d with
  | zero =>
    intro k s hs hd hk
    obtain ⟨k, rfl⟩ : ∃ m, k = m + 1 := ⟨k - 1, by omega⟩
    simp only [lines_Common_0.l1]
    rw [w64 (n := (sh : Int) - p) (by omega) (by omega), if_neg (by omega)]
    have : (a.drop p).reverse.drop s = [] ∨ (b.drop p).reverse.drop s = [] := by
      by_cases c : a.length ≤ b.length
      · left; exact List.drop_of_length_le (by simp; omega)
      · right; exact List.drop_of_length_le (by simp; omega)
    rcases this with e | e
    · rw [e, cpre_nil_l]; rfl
    · rw [e, cpre_nil_r]; rfl
  | succ d ih =>
    intro k s hs hd hk
    obtain ⟨k, rfl⟩ : ∃ m, k = m + 1 := ⟨k - 1, by omega⟩
    rw [rdOf_rev a p s (by omega), rdOf_rev b p s (by omega), cpre_cons]
    simp only [lines_Common_0.l1]
    rw [w64 (n := (sh : Int) - p) (by omega) (by omega), if_pos (by omega), w64 (n := (a.length : Int) - 1) (by omega) (by omega), w64 (n := (a.length : Int) - 1 - s) (by omega) (by omega), w64 (n := (b.length : Int) - 1) (by omega) (by omega), w64 (n := (b.length : Int) - 1 - s) (by omega) (by omega)]
    rw [if_pos (by omega), if_pos (by omega), if_pos (by omega), if_pos (by omega)]
    rw [show (a.length : Int) - 1 - s = ((a.length - 1 - s : Nat) : Int) by omega, show (b.length : Int) - 1 - s = ((b.length - 1 - s : Nat) : Int) by omega]
    by_cases e : rdOf ByteArray.empty a ((a.length - 1 - s : Nat) : Int) = rdOf ByteArray.empty b ((b.length - 1 - s : Nat) : Int)
    · rw [if_pos (toList_inj.mpr e), if_pos e, w64 (by omega) (by omega)]
      have := ih k (s + 1) (by omega) (by omega) (by omega)
      rw [Int.natCast_add] at this
      rw [show s + (cpre ((a.drop p).reverse.drop (s + 1)) ((b.drop p).reverse.drop (s + 1)) + 1) = s + 1 + cpre ((a.drop p).reverse.drop (s + 1)) ((b.drop p).reverse.drop (s + 1)) by omega]
      exact this
    · rw [if_neg (fun h => e (toList_inj.mp h)), if_neg e]
      rfl
theorem lines_Common_0.pre (a b : List ByteArray) (ha : a.length ≤ 120) (hb : b.length ≤ 120) (sh : Nat) (hsh : sh = min a.length b.length) (d : Nat) : ∀ (k i : Nat), i ≤ sh → sh - i = d → d + sh + 2 < k →
    lines_Common_0.l0 k a b (sh : Int) (i : Int) = some (((i + cpre (a.drop i) (b.drop i) : Nat) : Int), ((csuf (a.drop (i + cpre (a.drop i) (b.drop i))) (b.drop (i + cpre (a.drop i) (b.drop i))) : Nat) : Int), 0, 0) := by
  induction d with
  | zero =>
    intro k i hi hd hk
    obtain ⟨k, rfl⟩ : ∃ m, k = m + 2 := ⟨k - 2, by omega⟩
    have : cpre (a.drop i) (b.drop i) = 0 := by
      have : a.drop i = [] ∨ b.drop i = [] := by
        by_cases c : a.length ≤ b.length
        · left; exact List.drop_of_length_le (by omega)
        · right; exact List.drop_of_length_le (by omega)
      rcases this with e | e
      · rw [e, cpre_nil_l]
      · rw [e, cpre_nil_r]
    rw [this, Nat.add_zero]
    simp only [lines_Common_0.l0, lines_Common_0.j1]
    rw [if_neg (by omega)]
    have := lines_Common_0.suf a b ha hb i (by omega) (by omega) sh hsh (sh - i) k 0 (by omega) (by omega) (by omega)
    rw [Nat.zero_add] at this
    exact this
  | succ d ih =>
    intro k i hi hd hk
    obtain ⟨k, rfl⟩ : ∃ m, k = m + 2 := ⟨k - 2, by omega⟩
    rw [lines_Common_0.l0, if_pos (by omega), if_pos (by omega), if_pos (by omega), if_pos (by omega)]
    have e1 := rdOf_drop ByteArray.empty a i (by omega)
    have e2 := rdOf_drop ByteArray.empty b i (by omega)
    by_cases e : rdOf ByteArray.empty a (i : Int) = rdOf ByteArray.empty b (i : Int)
    · have hc : cpre (a.drop i) (b.drop i) = cpre (a.drop (i + 1)) (b.drop (i + 1)) + 1 := by rw [e1, e2, cpre_cons, if_pos e]
      rw [if_pos (toList_inj.mpr e), w64 (by omega) (by omega), hc]
      have := ih (k + 1) (i + 1) (by omega) (by omega) (by omega)
      rw [Int.natCast_add] at this
      rw [show i + (cpre (a.drop (i + 1)) (b.drop (i + 1)) + 1) = i + 1 + cpre (a.drop (i + 1)) (b.drop (i + 1)) by omega]
      exact this
    · have hc : cpre (a.drop i) (b.drop i) = 0 := by rw [e1, e2, cpre_cons, if_neg e]
      rw [if_neg (fun h => e (toList_inj.mp h)), hc, Nat.add_zero]
      simp only [lines_Common_0.j1]
      have := lines_Common_0.suf a b ha hb i (by omega) (by omega) sh hsh (sh - i) k 0 (by omega) (by omega) (by omega)
      rw [Nat.zero_add] at this
      exact this
def lines_Common.f (l0 : List ByteArray) (l1 : List ByteArray) : Option (Int × Int × Int × Int) :=  some (commonSpec l0 l1)
theorem lines_Common.calls (A0 : Option Addr) (c0 : Nat) (l0 : List ByteArray) (A1 : Option Addr) (c1 : Nat) (l1 : List ByteArray) (r1 : Int) (r2 : Int) (r3 : Int) (r4 : Int) (w : World) (hr0 : Kd.C Kd.string w A0 l0.length l0) (hc0 : l0.length ≤ c0) (hr1 : Kd.C Kd.string w A1 l1.length l1) (hc1 : l1.length ≤ c1) (h : lines_Common.f l0 l1 = some (r1, r2, r3, r4)) :
    Calls Try.prog 33 #[.slice A0 l0.length c0, .slice A1 l1.length c1] w fun e w' => e = .returned (.tuple #[.int .i64 r1, .int .i64 r2, .agg #[.int .i64 r3, .int .i64 r4]]) ∧ Below w.heap.size w w' := by
  have h' : lines_Common_0.f (2 * l0.length + 5) l0 l1 = some (r1, r2, r3, r4) := by
    rw [← h]
    unfold lines_Common_0.f lines_Common.f commonSpec
    simp only [lines_Two.f, Option.bind_some, fault_ne (twoFault_or l0 l1), decide_eq_true_iff]
    by_cases z : twoFault l0 l1 = (0, 0)
    · rw [if_neg (by simpa using z), if_pos z]
      obtain ⟨z1, z2⟩ := twoFault_ok.1 z
      have h1 := (linesFault_ok.1 z1).1
      have h2 := (linesFault_ok.1 z2).1
      rw [show mn (l0.length : Int) (l1.length : Int) = ((min l0.length l1.length : Nat) : Int) by unfold mn; split <;> omega]
      have := lines_Common_0.pre l0 l1 h1 h2 (min l0.length l1.length) rfl (min l0.length l1.length) (2 * l0.length + 5) 0 (by omega) (by omega) (by omega)
      rw [Nat.zero_add] at this
      exact this
    · rw [if_pos (by simpa using z), if_neg z]
  exact (lines_Common_0.calls (2 * l0.length + 5) A0 c0 l0 A1 c1 l1 r1 r2 r3 r4 w hr0 hc0 hr1 hc1 (h'))


/-! ### changeforgeref1_At: function 19 -/
def changeforgeref1_At.f (a0 : Int) (a1 : Int) : Option (Int × Int) := some (a0, a1)
set_option maxHeartbeats 8000000 in
set_option maxRecDepth 100000 in
theorem changeforgeref1_At.calls (a0 : Int) (a1 : Int) (r1 : Int) (r2 : Int) (w : World) (h : changeforgeref1_At.f a0 a1 = some (r1, r2)) :
    Calls Try.prog 19 #[.int .i64 a0, .int .i64 a1] w fun e w' => e = .returned (.agg #[.int .i64 r1, .int .i64 r2]) ∧ Below w.heap.size w w' := by
  have hu24 := Try.underlying24
  have HB := Aside0.mk (Below.refl w.heap.size w)
  have H : (some (a0, a1)) = some (r1, r2) := h
  clear h
  simp only [Option.some.injEq, Prod.mk.injEq] at H
  obtain ⟨rfl, rfl⟩ := H
  go_enter Try.func19, Try.ntmps19
  go_wp2_with (first | ((with_reducible refine gate_dst (N := 4) rfl ?_); refine box_event ?hg (N := 4) ?hd (cs := #[.int .i64 0, .int .i64 0]) (t := 24) ?hr ?_; (case hd => rfl); (case hg => rfl); (case hr => first | (go_simp; done) | (go_simp; rfl)); intro gb138 hg w3 hbox hb; have n0_ := Aside0.mk (below_step (by repeat (first | (with_reducible first | exact HB.out | apply below_alloc | apply pw_below_drewN | apply below_drew1) | exact HB.out)) hb); have n1_ := Aside0.mk (hbox); have n2_ := Aside0.mk ((by rw [hg]; exact (below_size (by repeat (first | (with_reducible first | exact HB.out | apply below_alloc | apply pw_below_drewN | apply below_drew1) | exact HB.out))) : w.heap.size ≤ gb138)); have n3_ := Aside0.mk ((by rw [hg]; exact (below_size (by repeat (first | (with_reducible first | exact HB.out | apply below_alloc | apply pw_below_drewN | apply below_drew1) | exact HB.out))) : w.heap.size ≤ gb138)); clear HB; have HB := n0_; have BK138 := n1_; have GW138 := n2_; have GE138 := n3_; clear n0_ n1_ n2_ n3_; clear hb hbox hg; have hcz4_0 : w3.cell? ⟨gb138, 0, none⟩ = some (.int .i64 0) := (blk_cell BK138.out 0).trans rfl; have hcz4_1 : w3.cell? ⟨gb138, 1, none⟩ = some (.int .i64 0) := (blk_cell BK138.out 1).trans rfl; have hfz4_0 := blk_frozen BK138.out 0; have hfz4_1 := blk_frozen BK138.out 1))
  refine bodyPost_ret (results_cell_row rfl _ _ gb138 24 #[.int .i64 a0, .int .i64 a1] (0, 0) _ rfl (by (with_reducible repeat (first | refine blk_drewN ?_ _ | refine blk_drew ?_ | refine blk_alloc ?_ _)); refine blk_put (cs := #[.int .i64 a0, .int .i64 0]) ?_ 1 _ rfl; (with_reducible repeat (first | refine blk_drewN ?_ _ | refine blk_drew ?_ | refine blk_alloc ?_ _)); refine blk_put (cs := #[.int .i64 0, .int .i64 0]) ?_ 0 _ rfl; (with_reducible repeat (first | refine blk_drewN ?_ _ | refine blk_drew ?_ | refine blk_alloc ?_ _)); exact BK138.out) Try.underlying24 rfl (by kernel_rfl)) rfl ?_
  exact ⟨by first | rfl | (simp [errW_none, errW_some] <;> rfl) | (simp [*, errW_none, errW_some] <;> rfl), by repeat (first | (with_reducible first | exact HB.out | apply below_alloc | apply pw_below_drewN | apply below_drew1 | refine below_set ?_ GE138.out) | exact HB.out)⟩

/-! ### changeforgeref1_LinesFault_0: function 30 -/
mutual
def changeforgeref1_LinesFault_0.l0 : Nat → List ByteArray → Int → Option (Int × Int)
  | 0, _, _ => none
  | k + 1, x0, x3 => if x3 < (x0.length : Int) then (if 0 ≤ x3 then (if ((rdOf ByteArray.empty x0 x3).size : Int) > 80 then ((changeforgeref1_At.f 2 x3).bind fun bt143 => (some (bt143.1, bt143.2))) else (changeforgeref1_LinesFault_0.l1 k x0 x3 0)) else (none)) else (some (0, 0))
def changeforgeref1_LinesFault_0.l1 : Nat → List ByteArray → Int → Int → Option (Int × Int)
  | 0, _, _, _ => none
  | k + 1, x0, x3, x4 => if 0 ≤ x3 then (if x3 < (x0.length : Int) then (if x4 < ((rdOf ByteArray.empty x0 x3).size : Int) then (if 0 ≤ x4 then (if (bt (rdOf ByteArray.empty x0 x3) x4) = 10 then ((changeforgeref1_At.f 5 x3).bind fun bt147 => (some (bt147.1, bt147.2))) else (changeforgeref1_LinesFault_0.l1 k x0 x3 (wrap64 (x4 + 1)))) else (none)) else (changeforgeref1_LinesFault_0.l0 k x0 (wrap64 (x3 + 1)))) else (none)) else (none)
end
def changeforgeref1_LinesFault_0.f (k : Nat) (l0 : List ByteArray) : Option (Int × Int) := if (l0.length : Int) > 120 then ((changeforgeref1_At.f 2 (-1)).bind fun bt140 => (some (bt140.1, bt140.2))) else (changeforgeref1_LinesFault_0.l0 k l0 0)
theorem changeforgeref1_LinesFault_0.mono_l : ∀ k, (∀ y0 y1, LeO (changeforgeref1_LinesFault_0.l0 k y0 y1) (changeforgeref1_LinesFault_0.l0 (k + 1) y0 y1)) ∧ (∀ y0 y1 y2, LeO (changeforgeref1_LinesFault_0.l1 k y0 y1 y2) (changeforgeref1_LinesFault_0.l1 (k + 1) y0 y1 y2))
  | 0 => ⟨fun _ _ r h => by simp [changeforgeref1_LinesFault_0.l0] at h, fun _ _ _ r h => by simp [changeforgeref1_LinesFault_0.l1] at h⟩
  | k + 1 => by
    obtain ⟨ih0, ih1⟩ := changeforgeref1_LinesFault_0.mono_l k;refine ⟨?_, ?_⟩
    · intro y0 y1
      unfold changeforgeref1_LinesFault_0.l0
      repeat' first
      | (with_reducible exact ih0 _ _)
      | (with_reducible exact ih1 _ _ _)
      | (with_reducible exact LeO.refl _)
      | (with_reducible exact LeO.none _)
      | (with_reducible refine LeO.ite ?_ ?_)
      | (with_reducible refine LeO.bind ?_ (fun _ => ?_))
      | exact ih0 _ _
      | exact ih1 _ _ _
      | exact LeO.none _
      | refine LeO.ite ?_ ?_
      | refine LeO.bind ?_ (fun _ => ?_)
    · intro y0 y1 y2
      unfold changeforgeref1_LinesFault_0.l1
      repeat' first
      | (with_reducible exact ih0 _ _)
      | (with_reducible exact ih1 _ _ _)
      | (with_reducible exact LeO.refl _)
      | (with_reducible exact LeO.none _)
      | (with_reducible refine LeO.ite ?_ ?_)
      | (with_reducible refine LeO.bind ?_ (fun _ => ?_))
      | exact ih0 _ _
      | exact ih1 _ _ _
      | exact LeO.none _
      | refine LeO.ite ?_ ?_
      | refine LeO.bind ?_ (fun _ => ?_)
theorem changeforgeref1_LinesFault_0.mono : ∀ a0 k, LeO (changeforgeref1_LinesFault_0.f k a0) (changeforgeref1_LinesFault_0.f (k + 1) a0) := by
  intro a0 k
  obtain ⟨ih0, ih1⟩ := changeforgeref1_LinesFault_0.mono_l k
  unfold changeforgeref1_LinesFault_0.f
  repeat' first
      | (with_reducible exact ih0 _ _)
      | (with_reducible exact ih1 _ _ _)
      | (with_reducible exact LeO.refl _)
      | (with_reducible exact LeO.none _)
      | (with_reducible refine LeO.ite ?_ ?_)
      | (with_reducible refine LeO.bind ?_ (fun _ => ?_))
      | exact ih0 _ _
      | exact ih1 _ _ _
      | exact LeO.none _
      | refine LeO.ite ?_ ?_
      | refine LeO.bind ?_ (fun _ => ?_)
set_option maxHeartbeats 8000000 in
set_option maxRecDepth 100000 in
theorem changeforgeref1_LinesFault_0.calls (k : Nat) (A0 : Option Addr) (c0 : Nat) (l0 : List ByteArray) (r1 : Int) (r2 : Int) (w : World) (hr0 : Kd.C Kd.string w A0 l0.length l0) (hc0 : l0.length ≤ c0) (h : changeforgeref1_LinesFault_0.f k l0 = some (r1, r2)) :
    Calls Try.prog 30 #[.slice A0 l0.length c0] w fun e w' => e = .returned (.agg #[.int .i64 r1, .int .i64 r2]) ∧ Below w.heap.size w w' := by
  have hu24 := Try.underlying24;have HR0 := Aside0.mk hr0;have HC0 := Aside0.mk hc0;clear hr0 hc0;have HB := Aside0.mk (Below.refl w.heap.size w);have H : (if (l0.length : Int) > 120 then ((changeforgeref1_At.f 2 (-1)).bind fun bt140 => (some (bt140.1, bt140.2))) else (changeforgeref1_LinesFault_0.l0 k l0 0)) = some (r1, r2) := h;clear h
  by_cases c2 : (l0.length : Int) > 120
  · rw [if_pos c2] at H;have c2b0 : decide (120 < (l0.length : Int)) = true := decide_eq_true c2;have c2b1 : decide (120 < l0.length) = true := decide_eq_true (by omega);clear c2;replace H := Option.bind_eq_some_iff.mp H;obtain ⟨⟨t140, t141⟩, A30, H⟩ := H;replace H : (some (t140, t141)) = some (r1, r2) := H;have A3 := Aside0.mk A30;clear A30;simp only [Option.some.injEq, Prod.mk.injEq] at H;obtain ⟨rfl, rfl⟩ := H
    go_enter Try.func30, Try.ntmps30
    go_wp2_with (first|((with_reducible refine gate_dst (N := 2) rfl ?_);refine bE 2 #[.int .i64 0, .int .i64 0] 24 ?_;intro gb139 hg w4 hbox hb;have BK139 := Aside0.mk (hbox);have GW139 := gBe HB hg;have GE139 := gBe HB hg;replace HB := sBe HB hb;clear hb hbox hg)|((with_reducible refine gate_callee (f := 19) rfl ?_);refine goesL_ (some 8) rfl rfl Try.func19 (by kernel_rfl) rfl #[.int .i64 2, .int .i64 (-1)] rfl mA ?_;(with_reducible refine (changeforgeref1_At.calls 2 (-1) t140 t141 _ A3.out).mono ?_);rintro e w5 ⟨rfl, hb⟩;refine ⟨_, rfl, ?_⟩;replace BK139 := lJ BK139 hb;replace HB := sBe HB hb;(try clear hb);have hcz6_0 := hC BK139 0 (.int .i64 0);have hcz6_1 := hC BK139 1 (.int .i64 0);have hfz6_0 := blk_frozen BK139.out 0;have hfz6_1 := blk_frozen BK139.out 1))
    refine bodyPost_ret (results_cell_row rfl _ _ gb139 24 #[.int .i64 t140, .int .i64 t141] (0, 0) _ rfl kK Try.underlying24 rfl (by kernel_rfl)) rfl ?_;exact ⟨rW, eB⟩
  · rw [if_neg c2] at H;have c2b0 : decide (120 < (l0.length : Int)) = false := decide_eq_false c2;have c2b1 : decide (120 < l0.length) = false := decide_eq_false (by omega);clear c2;have H' := Aside0.mk H;clear H
    go_enter Try.func30, Try.ntmps30
    go_wp2_with (first|((with_reducible refine gate_dst (N := 2) rfl ?_);refine bE 2 #[.int .i64 0, .int .i64 0] 24 ?_;intro gb139 hg w7 hbox hb;have BK139 := Aside0.mk (hbox);have GW139 := gBe HB hg;have GE139 := gBe HB hg;replace HB := sBe HB hb;clear hb hbox hg))
    go_loopg [3] k (fun kq v3 w' => ∃ (x3_1 : Int) (x140000_1 : Int) (x140001_1 : Int), v3 = .int .i64 x3_1 ∧ Aside0 (changeforgeref1_LinesFault_0.l0 kq l0 x3_1 = some (r1, r2)) ∧ Aside0 (kq ≤ k) ∧ Aside0 (w'.heap[gb139]? = some (.cells #[.int .i64 x140000_1, .int .i64 x140001_1] 24 (0, 0))) ∧ Aside0 (Below w.heap.size w w'))
    case atStart => exact ⟨(0), (0), (0), (by first|rfl|(simp only [i64_w, i32_w];done)|(simp only [i64_w, i32_w];rfl)|(simp;done)|(simp [*];done)), H', ⟨Nat.le_refl _⟩, ⟨kK⟩, ⟨eB⟩⟩
    case round =>
      clear H'
      try clear c1
      try clear c2
      try clear c2b0
      try clear c2b1
      try clear p2
      try clear c3
      try clear hcz6_0
      try clear hcz6_1
      try clear hfz6_0
      try clear hfz6_1
      obtain ⟨x3_1, x140000_1, x140001_1, rfl, HA, HK1, BK139, HB⟩ := hrel
      cases gk with
      | zero => exact absurd HA.out (by simp [changeforgeref1_LinesFault_0.l0])
      | succ k1 =>
        have H := HA.out;clear HA;simp only [changeforgeref1_LinesFault_0.l0] at H
        by_cases c8 : x3_1 < (l0.length : Int)
        · rw [if_pos c8] at H;have c8b0 : decide (x3_1 < (l0.length : Int)) = true := decide_eq_true c8;clear c8
          by_cases c9 : 0 ≤ x3_1
          · rw [if_pos c9] at H;have c9b0 : decide (0 ≤ x3_1) = true := decide_eq_true c9;clear c9
            by_cases c10 : ((rdOf ByteArray.empty l0 x3_1).size : Int) > 80
            · rw [if_pos c10] at H;have c10b0 : decide (80 < ((rdOf ByteArray.empty l0 x3_1).size : Int)) = true := decide_eq_true c10;have c10b1 : decide (80 < (rdOf ByteArray.empty l0 x3_1).size) = true := decide_eq_true (by omega);clear c10;replace H := Option.bind_eq_some_iff.mp H;obtain ⟨⟨t143, t144⟩, A110, H⟩ := H;replace H : (some (t143, t144)) = some (r1, r2) := H;have A11 := Aside0.mk A110;clear A110;simp only [Option.some.injEq, Prod.mk.injEq] at H;obtain ⟨rfl, rfl⟩ := H;have p142 : 0 ≤ (x3_1 : Int) := dA;have q142 : x3_1 < (l0.length : Int) := dA;obtain ⟨ad142, e142, hx142_0⟩ := Kd.at_string HR0.out x3_1 p142 q142
              cases e142
              replace hx142_0 := (hX HB hx142_0:);replace p142 := eq_true p142;replace q142 := eq_true q142
              go_wp2_with (first|((with_reducible refine gate_callee (f := 19) rfl ?_);refine goesL_ (some 22) rfl rfl Try.func19 (by kernel_rfl) rfl #[.int .i64 2, .int .i64 x3_1] rfl mA ?_;(with_reducible refine (changeforgeref1_At.calls 2 x3_1 t143 t144 _ A11.out).mono ?_);rintro e w12 ⟨rfl, hb⟩;refine ⟨_, rfl, ?_⟩;replace BK139 := lJ BK139 hb;replace HB := sBe HB hb;(try clear hb);have hcz13_0 := hC BK139 0 (.int .i64 x140000_1);have hcz13_1 := hC BK139 1 (.int .i64 x140001_1);have hfz13_0 := blk_frozen BK139.out 0;have hfz13_1 := blk_frozen BK139.out 1))
              refine bodyPost_ret (results_cell_row rfl _ _ gb139 24 #[.int .i64 t143, .int .i64 t144] (0, 0) _ rfl kK Try.underlying24 rfl (by kernel_rfl)) rfl ?_;exact ⟨rW, eB⟩
            · rw [if_neg c10] at H;have c10b0 : decide (80 < ((rdOf ByteArray.empty l0 x3_1).size : Int)) = false := decide_eq_false c10;have c10b1 : decide (80 < (rdOf ByteArray.empty l0 x3_1).size) = false := decide_eq_false (by omega);clear c10;have H' := Aside0.mk H;clear H;have p142 : 0 ≤ (x3_1 : Int) := dA;have q142 : x3_1 < (l0.length : Int) := dA;obtain ⟨ad142, e142, hx142_0⟩ := Kd.at_string HR0.out x3_1 p142 q142
              cases e142
              replace hx142_0 := (hX HB hx142_0:);replace p142 := eq_true p142;replace q142 := eq_true q142
              go_wp2
              go_loopg [4] k1 (fun kq v4 w' => ∃ (x4_2 : Int) (x140000_2 : Int) (x140001_2 : Int), v4 = .int .i64 x4_2 ∧ Aside0 (changeforgeref1_LinesFault_0.l1 kq l0 x3_1 x4_2 = some (r1, r2)) ∧ Aside0 (kq ≤ k1) ∧ Aside0 (w'.heap[gb139]? = some (.cells #[.int .i64 x140000_2, .int .i64 x140001_2] 24 (0, 0))) ∧ Aside0 (Below w.heap.size w w'))
              case atStart => exact ⟨(0), (x140000_1), (x140001_1), (by first|rfl|(simp only [i64_w, i32_w];done)|(simp only [i64_w, i32_w];rfl)|(simp;done)|(simp [*];done)), H', ⟨Nat.le_refl _⟩, ⟨kK⟩, ⟨eB⟩⟩
              case round =>
                clear H'
                try clear c1
                try clear p1
                try clear q1
                try clear hx1
                try clear c2
                try clear c2b0
                try clear c2b1
                try clear p2
                try clear c3
                try clear c8
                try clear c8b0
                try clear c9
                try clear c9b0
                try clear c10
                try clear c10b0
                try clear c10b1
                try clear hcz13_0
                try clear hcz13_1
                try clear hcz6_0
                try clear hcz6_1
                try clear hfz13_0
                try clear hfz13_1
                try clear hfz6_0
                try clear hfz6_1
                try clear hx142_0
                try clear p142
                try clear p2
                try clear q142
                obtain ⟨x4_2, x140000_2, x140001_2, rfl, HA, HK2, BK139, HB⟩ := hrel
                cases gk with
                | zero => exact absurd HA.out (by simp [changeforgeref1_LinesFault_0.l1])
                | succ k2 =>
                  have H := HA.out;clear HA;simp only [changeforgeref1_LinesFault_0.l1] at H
                  by_cases c14 : 0 ≤ x3_1
                  · rw [if_pos c14] at H;have c14b0 : decide (0 ≤ x3_1) = true := decide_eq_true c14;clear c14
                    by_cases c15 : x3_1 < (l0.length : Int)
                    · rw [if_pos c15] at H;have c15b0 : decide (x3_1 < (l0.length : Int)) = true := decide_eq_true c15;clear c15
                      by_cases c16 : x4_2 < ((rdOf ByteArray.empty l0 x3_1).size : Int)
                      · rw [if_pos c16] at H;have c16b0 : decide (x4_2 < ((rdOf ByteArray.empty l0 x3_1).size : Int)) = true := decide_eq_true c16;clear c16
                        by_cases c17 : 0 ≤ x4_2
                        · rw [if_pos c17] at H;have c17b0 : decide (0 ≤ x4_2) = true := decide_eq_true c17;clear c17
                          by_cases c19 : (bt (rdOf ByteArray.empty l0 x3_1) x4_2) = 10
                          · rw [if_pos c19] at H;have c19b0 : ((bt (rdOf ByteArray.empty l0 x3_1) x4_2) == 10) = true := beq_iff_eq.mpr c19;have c19b1 : ((bt (rdOf ByteArray.empty l0 x3_1) x4_2) != 10) = false := bne_eq_false_iff_eq.mpr c19;clear c19;replace H := Option.bind_eq_some_iff.mp H;obtain ⟨⟨t147, t148⟩, A200, H⟩ := H;replace H : (some (t147, t148)) = some (r1, r2) := H;have A20 := Aside0.mk A200;clear A200;simp only [Option.some.injEq, Prod.mk.injEq] at H;obtain ⟨rfl, rfl⟩ := H;have p145 : 0 ≤ (x3_1 : Int) := dA;have q145 : x3_1 < (l0.length : Int) := dA;obtain ⟨ad145, e145, hx145_0⟩ := Kd.at_string HR0.out x3_1 p145 q145;obtain rfl : ad142 = ad145 := (by injection e145);replace hx145_0 := (hX HB hx145_0:);replace p145 := eq_true p145;replace q145 := eq_true q145;have p146 : 0 ≤ (x3_1 : Int) := dA;have q146 : x3_1 < (l0.length : Int) := dA;obtain ⟨ad146, e146, hx146_0⟩ := Kd.at_string HR0.out x3_1 p146 q146;obtain rfl : ad142 = ad146 := (by injection e146);replace hx146_0 := (hX HB hx146_0:);replace p146 := eq_true p146;replace q146 := eq_true q146;have p18 : 0 ≤ (x4_2 : Int) := dA;have q18 : x4_2 < ((rdOf ByteArray.empty l0 x3_1).size : Int) := dA;have hx18 := bt_at (rdOf ByteArray.empty l0 x3_1) x4_2;replace p18 := eq_true p18;replace q18 := eq_true q18
                            go_wp2_with (first|((with_reducible refine gate_callee (f := 19) rfl ?_);refine goesL_ (some 40) rfl rfl Try.func19 (by kernel_rfl) rfl #[.int .i64 5, .int .i64 x3_1] rfl mA ?_;(with_reducible refine (changeforgeref1_At.calls 5 x3_1 t147 t148 _ A20.out).mono ?_);rintro e w21 ⟨rfl, hb⟩;refine ⟨_, rfl, ?_⟩;replace BK139 := lJ BK139 hb;replace HB := sBe HB hb;(try clear hb);have hcz22_0 := hC BK139 0 (.int .i64 x140000_2);have hcz22_1 := hC BK139 1 (.int .i64 x140001_2);have hfz22_0 := blk_frozen BK139.out 0;have hfz22_1 := blk_frozen BK139.out 1))
                            refine bodyPost_ret (results_cell_row rfl _ _ gb139 24 #[.int .i64 t147, .int .i64 t148] (0, 0) _ rfl kK Try.underlying24 rfl (by kernel_rfl)) rfl ?_;exact ⟨rW, eB⟩
                          · rw [if_neg c19] at H;have c19b0 : ((bt (rdOf ByteArray.empty l0 x3_1) x4_2) == 10) = false := beq_eq_false_iff_ne.mpr c19;have c19b1 : ((bt (rdOf ByteArray.empty l0 x3_1) x4_2) != 10) = true := bne_iff_ne.mpr c19;have H' := Aside0.mk H;clear H;have p145 : 0 ≤ (x3_1 : Int) := dA;have q145 : x3_1 < (l0.length : Int) := dA;obtain ⟨ad145, e145, hx145_0⟩ := Kd.at_string HR0.out x3_1 p145 q145;obtain rfl : ad142 = ad145 := (by injection e145);replace hx145_0 := (hX HB hx145_0:);replace p145 := eq_true p145;replace q145 := eq_true q145;have p146 : 0 ≤ (x3_1 : Int) := dA;have q146 : x3_1 < (l0.length : Int) := dA;obtain ⟨ad146, e146, hx146_0⟩ := Kd.at_string HR0.out x3_1 p146 q146;obtain rfl : ad142 = ad146 := (by injection e146);replace hx146_0 := (hX HB hx146_0:);replace p146 := eq_true p146;replace q146 := eq_true q146;have p18 : 0 ≤ (x4_2 : Int) := dA;have q18 : x4_2 < ((rdOf ByteArray.empty l0 x3_1).size : Int) := dA;have hx18 := bt_at (rdOf ByteArray.empty l0 x3_1) x4_2;replace p18 := eq_true p18;replace q18 := eq_true q18
                            go_wp2
                            go_roundg k2
                            case measure => have := HK1.out;have := HK2.out;omega
                            case rel => exact ⟨(wrap64 (x4_2 + 1)), (x140000_2), (x140001_2), (by first|rfl|(simp only [i64_w, i32_w];done)|(simp only [i64_w, i32_w];rfl)|(simp;done)|(simp [*];done)), H', ⟨by have := HK1.out;have := HK2.out;omega⟩, ⟨kK⟩, ⟨eB⟩⟩
                        · rw [if_neg c17] at H;exact absurd H (by simp)
                      · rw [if_neg c16] at H;have c16b0 : decide (x4_2 < ((rdOf ByteArray.empty l0 x3_1).size : Int)) = false := decide_eq_false c16;clear c16;have H' := Aside0.mk H;clear H;have p145 : 0 ≤ (x3_1 : Int) := dA;have q145 : x3_1 < (l0.length : Int) := dA;obtain ⟨ad145, e145, hx145_0⟩ := Kd.at_string HR0.out x3_1 p145 q145;obtain rfl : ad142 = ad145 := (by injection e145);replace hx145_0 := (hX HB hx145_0:);replace p145 := eq_true p145;replace q145 := eq_true q145
                        go_wp2
                        go_roundg k2
                        case measure => have := HK1.out;have := HK2.out;omega
                        case rel => exact ⟨(wrap64 (x3_1 + 1)), (x140000_2), (x140001_2), (by first|rfl|(simp only [i64_w, i32_w];done)|(simp only [i64_w, i32_w];rfl)|(simp;done)|(simp [*];done)), H', ⟨by have := HK1.out;have := HK2.out;omega⟩, ⟨kK⟩, ⟨eB⟩⟩
                    · rw [if_neg c15] at H;exact absurd H (by simp)
                  · rw [if_neg c14] at H;exact absurd H (by simp)
          · rw [if_neg c9] at H;exact absurd H (by simp)
        · rw [if_neg c8] at H;have c8b0 : decide (x3_1 < (l0.length : Int)) = false := decide_eq_false c8;clear c8;simp only [Option.some.injEq, Prod.mk.injEq] at H;obtain ⟨rfl, rfl⟩ := H;have hcz23_0 : wr.cell? ⟨gb139, 0, none⟩ = some (.int .i64 x140000_1) := (blk_cell BK139.out 0).trans rfl;have hcz23_1 : wr.cell? ⟨gb139, 1, none⟩ = some (.int .i64 x140001_1) := (blk_cell BK139.out 1).trans rfl;have hfz23_0 := blk_frozen BK139.out 0;have hfz23_1 := blk_frozen BK139.out 1
          go_wp2
          refine bodyPost_ret (results_cell_row rfl _ _ gb139 24 #[.int .i64 0, .int .i64 0] (0, 0) _ rfl kK Try.underlying24 rfl (by kernel_rfl)) rfl ?_;exact ⟨rW, eB⟩

/-! ### changeforgeref1_LinesFault: function 30 -/
theorem changeforgeref1_LinesFault_0.line (l : List ByteArray) (i : Nat) (hi : i < l.length) (hl : l.length ≤ 120) (hs : (rdOf ByteArray.empty l (i : Int)).size ≤ 80) (d : Nat) : ∀ (k j : Nat), j ≤ (rdOf ByteArray.empty l (i : Int)).size → (rdOf ByteArray.empty l (i : Int)).size - j = d → d < k →
    changeforgeref1_LinesFault_0.l1 k l (i : Int) (j : Int) = if ((rdOf ByteArray.empty l (i : Int)).data.toList.drop j).contains 10 = true then some (5, (i : Int)) else changeforgeref1_LinesFault_0.l0 (k - 1 - d) l ((i : Int) + 1) := by
  generalize hx : rdOf ByteArray.empty l (i : Int) = s at *
  induction d with
  | zero =>
    intro k j hj hd hk
    obtain ⟨k, rfl⟩ : ∃ m, k = m + 1 := ⟨k - 1, by omega⟩
    simp only [changeforgeref1_LinesFault_0.l1, hx]
    rw [if_pos (by omega), if_pos (by omega), if_neg (by omega), List.drop_eq_nil_of_le (by rw [data_length]; omega), w64 (by omega) (by omega)]
    simp
  | succ d ih =>
    intro k j hj hd hk
    obtain ⟨k, rfl⟩ : ∃ m, k = m + 1 := ⟨k - 1, by omega⟩
    obtain ⟨c, hc, hdr⟩ := bt_drop s j (by omega)
    simp only [changeforgeref1_LinesFault_0.l1, hx]
    rw [if_pos (by omega), if_pos (by omega), if_pos (by omega), if_pos (by omega), hc, hdr]
    by_cases e : c = 10
    · subst e
      rw [if_pos (by decide)]
      simp [changeforgeref1_At.f]
    · have e' : ¬ (c.toNat : Int) = 10 := fun h => e (by
        have : c.toNat = 10 := by omega
        exact UInt8.toNat_inj.mp (by rw [this]; rfl))
      rw [if_neg e', w64 (by omega) (by omega)]
      have := ih k (j + 1) (by omega) (by omega) (by omega)
      rw [Int.natCast_add] at this
      rw [show (((1 : Nat) : Int)) = 1 from rfl] at this
      rw [this, List.contains_cons, show ((10 : UInt8) == c) = false by simpa using fun h => e h.symm, Bool.false_or, show k + 1 - 1 - (d + 1) = k - 1 - d by omega]
theorem changeforgeref1_LinesFault_0.loop (l : List ByteArray) (hl : l.length ≤ 120) (d : Nat) : ∀ (k i : Nat), i ≤ l.length → l.length - i = d → 100 * d < k → changeforgeref1_LinesFault_0.l0 k l (i : Int) = some (faultAt (l.drop i) (i : Int)) := by
  induction d with
  | zero =>
    intro k i hi hd hk
    obtain ⟨k, rfl⟩ : ∃ m, k = m + 1 := ⟨k - 1, by omega⟩
    simp only [changeforgeref1_LinesFault_0.l0]
    rw [if_neg (by omega), List.drop_eq_nil_of_le (by omega)]
    rfl
  | succ d ih =>
    intro k i hi hd hk
    obtain ⟨k, rfl⟩ : ∃ m, k = m + 1 := ⟨k - 1, by omega⟩
    rw [rdOf_drop ByteArray.empty l i (by omega)]
    have hline := changeforgeref1_LinesFault_0.line l i (by omega) hl
    generalize hs : rdOf ByteArray.empty l (i : Int) = s at *
    simp only [changeforgeref1_LinesFault_0.l0, hs]
    rw [if_pos (by omega), if_pos (by omega)]
    simp only [faultAt]
    by_cases h1 : 80 < s.size
    · rw [if_pos (by omega), if_pos h1]
      rfl
    · rw [if_neg (by omega), if_neg h1]
      have := hline (by omega) s.size k 0 (by omega) (by omega) (by omega)
      rw [show ((0 : Nat) : Int) = 0 from rfl, List.drop_zero] at this
      rw [this]
      show (if hasNl s = true then _ else _) = _
      by_cases h2 : hasNl s = true
      · rw [if_pos h2, if_pos h2]
      · rw [if_neg h2, if_neg h2]
        have := ih (k - 1 - s.size) (i + 1) (by omega) (by omega) (by omega)
        rw [Int.natCast_add] at this
        exact this
def changeforgeref1_LinesFault.f (l0 : List ByteArray) : Option (Int × Int) :=  some (linesFault l0)
theorem changeforgeref1_LinesFault.calls (A0 : Option Addr) (c0 : Nat) (l0 : List ByteArray) (r1 : Int) (r2 : Int) (w : World) (hr0 : Kd.C Kd.string w A0 l0.length l0) (hc0 : l0.length ≤ c0) (h : changeforgeref1_LinesFault.f l0 = some (r1, r2)) :
    Calls Try.prog 30 #[.slice A0 l0.length c0] w fun e w' => e = .returned (.agg #[.int .i64 r1, .int .i64 r2]) ∧ Below w.heap.size w w' := by
  have h' : changeforgeref1_LinesFault_0.f 12001 l0 = some (r1, r2) := by
    rw [← h]
    unfold changeforgeref1_LinesFault_0.f changeforgeref1_LinesFault.f linesFault
    by_cases c : 120 < l0.length
    · rw [if_pos (by omega), if_pos c]
      rfl
    · rw [if_neg (by omega), if_neg c]
      exact changeforgeref1_LinesFault_0.loop l0 (by omega) l0.length 12001 0 (by omega) (by omega) (by omega)
  exact (changeforgeref1_LinesFault_0.calls (12001) A0 c0 l0 r1 r2 w hr0 hc0 (h'))


/-! ### changeforgeref1_LinesCode_0: function 46 -/
def changeforgeref1_LinesCode_0.f (l0 : List ByteArray) : Option (Int) := (changeforgeref1_LinesFault.f l0).bind fun bt149 => (some bt149.1)
set_option maxHeartbeats 8000000 in
set_option maxRecDepth 100000 in
theorem changeforgeref1_LinesCode_0.calls (A0 : Option Addr) (c0 : Nat) (l0 : List ByteArray) (r : Int) (w : World) (hr0 : Kd.C Kd.string w A0 l0.length l0) (hc0 : l0.length ≤ c0) (h : changeforgeref1_LinesCode_0.f l0 = some r) :
    Calls Try.prog 46 #[.slice A0 l0.length c0] w fun e w' => e = .returned (.int .i64 r) ∧ Below w.heap.size w w' := by
  have hu24 := Try.underlying24
  have HR0 := Aside0.mk hr0
  have HC0 := Aside0.mk hc0
  clear hr0 hc0
  have HB := Aside0.mk (Below.refl w.heap.size w)
  have H : ((changeforgeref1_LinesFault.f l0).bind fun bt149 => (some bt149.1)) = some r := h
  clear h
  replace H := Option.bind_eq_some_iff.mp H
  obtain ⟨⟨t149, t150⟩, A20, H⟩ := H
  replace H : (some t149) = some r := H
  have A2 := Aside0.mk A20
  clear A20
  obtain rfl := Option.some.inj H
  have hfd24_0_ := fun (a0_ a1_ : Int) (w_ : World) => (show (Instr.field 24 (.agg #[.int .i64 a0_, .int .i64 a1_]) 0).run Try.prog w_ = .ok (.int .i64 a0_) w_ by kernel_rfl)
  go_enter Try.func46, Try.ntmps46
  go_wp2_with (first | ((with_reducible refine gate_callee (f := 30) rfl ?_); refine goesL_ (some 4) rfl rfl Try.func30 (by kernel_rfl) rfl #[.slice A0 l0.length c0] rfl (by (try simp only [List.map_toArray, List.map_cons, List.map_nil]); first | done | rfl | (simp only [List.length_drop, List.length_take]; rfl)) ?_; (with_reducible refine (changeforgeref1_LinesFault.calls _ _ l0 t149 t150 _ ?side1 ?side2 A2.out).mono ?_); (case side1 => repeat (first | exact HR0.out | (with_reducible refine Kd.C_alloc ?_ _) | (with_reducible refine Kd.C_drewN ?_ _) | (with_reducible refine Kd.C_drew ?_))); (case side2 => exact HC0.out); rintro e w3 ⟨rfl, hb⟩; refine ⟨_, rfl, ?_⟩; have n0_ := Aside0.mk (below_step (by repeat (first | (with_reducible first | exact HB.out | apply below_alloc | apply pw_below_drewN | apply below_drew1) | exact HB.out)) hb); clear HB; have HB := n0_; clear n0_; (try clear hb); (try clear hb2); (try clear hk); (try clear hi)))
  go_ret
  exact ⟨by first | rfl | (simp [errW_none, errW_some] <;> rfl) | (simp [*, errW_none, errW_some] <;> rfl), by repeat (first | (with_reducible first | exact HB.out | apply below_alloc | apply pw_below_drewN | apply below_drew1) | exact HB.out)⟩

/-! ### changeforgeref1_LinesCode: function 46 -/
def changeforgeref1_LinesCode.f (l0 : List ByteArray) : Option (Int) :=  some (linesFault l0).1
theorem changeforgeref1_LinesCode.calls (A0 : Option Addr) (c0 : Nat) (l0 : List ByteArray) (r : Int) (w : World) (hr0 : Kd.C Kd.string w A0 l0.length l0) (hc0 : l0.length ≤ c0) (h : changeforgeref1_LinesCode.f l0 = some r) :
    Calls Try.prog 46 #[.slice A0 l0.length c0] w fun e w' => e = .returned (.int .i64 r) ∧ Below w.heap.size w w' := by
  have h' : changeforgeref1_LinesCode_0.f l0 = some r := h
  exact (changeforgeref1_LinesCode_0.calls A0 c0 l0 r w hr0 hc0 (h'))


/-! ### changeforgeref1_TwoFault_0: function 34 -/
def changeforgeref1_TwoFault_0.j0 : Nat → List ByteArray → Bool → Int → Int → Option (Int × Int)
  | 0, _, _, _, _ => none
  | k + 1, x1, x15, x155000, x155001 => if x15 = true then ((changeforgeref1_LinesCode.f x1).bind fun t156 => ((changeforgeref1_At.f t156 (-2)).bind fun bt157 => (some (bt157.1, bt157.2)))) else (some (x155000, x155001))
def changeforgeref1_TwoFault_0.f (k : Nat) (l0 : List ByteArray) (l1 : List ByteArray) : Option (Int × Int) := (changeforgeref1_LinesFault.f l0).bind fun bt152 => (if bt152.1 = 0 then ((changeforgeref1_LinesCode.f l1).bind fun t155 => (changeforgeref1_TwoFault_0.j0 k l1 (t155 != 0) bt152.1 bt152.2)) else (changeforgeref1_TwoFault_0.j0 k l1 false bt152.1 bt152.2))
theorem changeforgeref1_TwoFault_0.mono_l : ∀ k, (∀ y0 y1 y2 y3, LeO (changeforgeref1_TwoFault_0.j0 k y0 y1 y2 y3) (changeforgeref1_TwoFault_0.j0 (k + 1) y0 y1 y2 y3))
  | 0 => fun _ _ _ _ r h => by simp [changeforgeref1_TwoFault_0.j0] at h
  | k + 1 => by
    have ih0 := changeforgeref1_TwoFault_0.mono_l k
    · intro y0 y1 y2 y3
      unfold changeforgeref1_TwoFault_0.j0
      repeat' first
      | (with_reducible exact ih0 _ _ _ _)
      | (with_reducible exact LeO.refl _)
      | (with_reducible exact LeO.none _)
      | (with_reducible refine LeO.ite ?_ ?_)
      | (with_reducible refine LeO.bind ?_ (fun _ => ?_))
      | exact ih0 _ _ _ _
      | exact LeO.none _
      | refine LeO.ite ?_ ?_
      | refine LeO.bind ?_ (fun _ => ?_)
theorem changeforgeref1_TwoFault_0.mono : ∀ a0 a1 k, LeO (changeforgeref1_TwoFault_0.f k a0 a1) (changeforgeref1_TwoFault_0.f (k + 1) a0 a1) := by
  intro a0 a1 k
  have ih0 := changeforgeref1_TwoFault_0.mono_l k
  unfold changeforgeref1_TwoFault_0.f
  repeat' first
      | (with_reducible exact ih0 _ _ _ _)
      | (with_reducible exact LeO.refl _)
      | (with_reducible exact LeO.none _)
      | (with_reducible refine LeO.ite ?_ ?_)
      | (with_reducible refine LeO.bind ?_ (fun _ => ?_))
      | exact ih0 _ _ _ _
      | exact LeO.none _
      | refine LeO.ite ?_ ?_
      | refine LeO.bind ?_ (fun _ => ?_)
set_option maxHeartbeats 8000000 in
set_option maxRecDepth 100000 in
theorem changeforgeref1_TwoFault_0.calls (k : Nat) (A0 : Option Addr) (c0 : Nat) (l0 : List ByteArray) (A1 : Option Addr) (c1 : Nat) (l1 : List ByteArray) (r1 : Int) (r2 : Int) (w : World) (hr0 : Kd.C Kd.string w A0 l0.length l0) (hc0 : l0.length ≤ c0) (hr1 : Kd.C Kd.string w A1 l1.length l1) (hc1 : l1.length ≤ c1) (h : changeforgeref1_TwoFault_0.f k l0 l1 = some (r1, r2)) :
    Calls Try.prog 34 #[.slice A0 l0.length c0, .slice A1 l1.length c1] w fun e w' => e = .returned (.agg #[.int .i64 r1, .int .i64 r2]) ∧ Below w.heap.size w w' := by
  have hu24 := Try.underlying24;have HR0 := Aside0.mk hr0;have HC0 := Aside0.mk hc0;clear hr0 hc0;have HR1 := Aside0.mk hr1;have HC1 := Aside0.mk hc1;clear hr1 hc1;have HB := Aside0.mk (Below.refl w.heap.size w);have H : ((changeforgeref1_LinesFault.f l0).bind fun bt152 => (if bt152.1 = 0 then ((changeforgeref1_LinesCode.f l1).bind fun t155 => (changeforgeref1_TwoFault_0.j0 k l1 (t155 != 0) bt152.1 bt152.2)) else (changeforgeref1_TwoFault_0.j0 k l1 false bt152.1 bt152.2))) = some (r1, r2) := h;clear h;replace H := Option.bind_eq_some_iff.mp H;obtain ⟨⟨t152, t153⟩, A30, H⟩ := H;replace H : (if t152 = 0 then ((changeforgeref1_LinesCode.f l1).bind fun t155 => (changeforgeref1_TwoFault_0.j0 k l1 (t155 != 0) t152 t153)) else (changeforgeref1_TwoFault_0.j0 k l1 false t152 t153)) = some (r1, r2) := H;have A3 := Aside0.mk A30;clear A30;have HC4 := Aside0.mk H;clear H
  go_enter Try.func34, Try.ntmps34
  go_upto_region 2 with (first|((with_reducible refine gate_dst (N := 4) rfl ?_);refine bE 4 #[.int .i64 0, .int .i64 0] 24 ?_;intro gb151 hg w5 hbox hb;have BK151 := Aside0.mk (hbox);have GW151 := gBe HB hg;have GE151 := gBe HB hg;replace HB := sBe HB hb;clear hb hbox hg)|((with_reducible refine gate_callee (f := 30) rfl ?_);refine goesL_ (some 7) rfl rfl Try.func30 (by kernel_rfl) rfl #[.slice A0 l0.length c0] rfl mA ?_;(with_reducible refine (changeforgeref1_LinesFault.calls _ _ l0 t152 t153 _ ?side1 ?side2 A3.out).mono ?_);(case side1 => exact cBe HR0);(case side2 => exact HC0.out);rintro e w6 ⟨rfl, hb⟩;refine ⟨_, rfl, ?_⟩;replace BK151 := lJ BK151 hb;replace HB := sBe HB hb;(try clear hb))|((with_reducible refine gate_dst (N := 5) rfl ?_);refine bE 5 #[.int .i64 0, .int .i64 0] 24 ?_;intro gb154 hg w7 hbox hb;have BK154 := Aside0.mk (hbox);have GW154 := gBe HB hg;have GE154 := gBe HB hg;have NB151_154 := nL BK151 hg;have NB154_151 := nG BK151 hg;replace BK151 := lJ BK151 hb;replace HB := sBe HB hb;clear hb hbox hg;have hnb8 := NB154_151.out;have hnc8 := NB151_154.out;have hcz9_0 := hC BK154 0 (.int .i64 0);have hcz9_1 := hC BK154 1 (.int .i64 0);have hfz9_0 := blk_frozen BK154.out 0;have hfz9_1 := blk_frozen BK154.out 1))
  (try simp only [Act.put, sA, sB, sC])
  go_cut [15] (fun v15 wc => ∃ (kq : Nat) (x15_3 : Bool), v15 = .bool x15_3 ∧ Aside0 (changeforgeref1_TwoFault_0.j0 kq l1 x15_3 t152 t153 = some (r1, r2)) ∧ Aside0 (kq ≤ k) ∧ Aside0 (wc.heap[gb151]? = some (.cells #[.int .i64 0, .int .i64 0] 24 (0, 0))) ∧ Aside0 (wc.heap[gb154]? = some (.cells #[.int .i64 t152, .int .i64 t153] 24 (0, 0))) ∧ Aside0 (Below w.heap.size w wc))
  case first =>
    have H := HC4.out;clear HC4
    by_cases c10 : t152 = 0
    · rw [if_pos c10] at H;have c10b0 : (t152 == 0) = true := beq_iff_eq.mpr c10;have c10b1 : (t152 != 0) = false := bne_eq_false_iff_eq.mpr c10;clear c10
      (first|rw [c10b0]|(simp only [i64_w, i32_w];rw [c10b0])|skip)
      replace H := Option.bind_eq_some_iff.mp H;obtain ⟨t155, A110, H⟩ := H;replace H : (changeforgeref1_TwoFault_0.j0 k l1 (t155 != 0) t152 t153) = some (r1, r2) := H;have A11 := Aside0.mk A110;clear A110;have H' := Aside0.mk H;clear H;have hnb12 := NB154_151.out;have hnc12 := NB151_154.out;have hcz13_0 := hC BK154 0 (.int .i64 0);have hcz13_1 := hC BK154 1 (.int .i64 0);have hfz13_0 := blk_frozen BK154.out 0;have hfz13_1 := blk_frozen BK154.out 1
      go_wp2_with (first|(go_at_call 46;(with_reducible refine (changeforgeref1_LinesCode.calls _ _ l1 t155 _ ?side1 ?side2 A11.out).mono ?_);(case side1 => exact Kd.C_below HR1.out eB);(case side2 => exact HC1.out);rintro e w14 ⟨rfl, hb⟩;replace BK151 := lJ BK151 hb;replace BK154 := lK gb154 24 #[.int .i64 t152, .int .i64 t153] hb;replace HB := sBe HB hb;(try clear hb)))
      go_meet
      case rel => exact ⟨_, ((t155 != 0)), (by first|rfl|(simp only [i64_w, i32_w];done)|(simp only [i64_w, i32_w];rfl)|(simp;done)|(simp [*];done)), H', ⟨by first|omega|exact Nat.le_refl _⟩, ⟨kK⟩, ⟨kK⟩, ⟨eB⟩⟩
    · rw [if_neg c10] at H;have c10b0 : (t152 == 0) = false := beq_eq_false_iff_ne.mpr c10;have c10b1 : (t152 != 0) = true := bne_iff_ne.mpr c10
      (first|rw [c10b0]|(simp only [i64_w, i32_w];rw [c10b0])|skip)
      have H' := Aside0.mk H;clear H;have hnb15 := NB154_151.out;have hnc15 := NB151_154.out;have hcz16_0 := hC BK154 0 (.int .i64 0);have hcz16_1 := hC BK154 1 (.int .i64 0);have hfz16_0 := blk_frozen BK154.out 0;have hfz16_1 := blk_frozen BK154.out 1
      go_wp2
      go_meet
      case rel => exact ⟨_, (false), (by first|rfl|(simp only [i64_w, i32_w];done)|(simp only [i64_w, i32_w];rfl)|(simp;done)|(simp [*];done)), H', ⟨by first|omega|exact Nat.le_refl _⟩, ⟨kK⟩, ⟨kK⟩, ⟨eB⟩⟩
  case rest =>
    clear HC4
    try clear c1
    try clear p2
    try clear c3
    try clear c8
    try clear c10
    try clear c10b0
    try clear c10b1
    try clear c12
    try clear c15
    try clear hcz13_0
    try clear hcz13_1
    try clear hcz16_0
    try clear hcz16_1
    try clear hcz9_0
    try clear hcz9_1
    try clear hfz13_0
    try clear hfz13_1
    try clear hfz16_0
    try clear hfz16_1
    try clear hfz9_0
    try clear hfz9_1
    obtain ⟨kq, x15_3, rfl, HA, HJ3, BK151, BK154, HB⟩ := hcut
    cases kq with
    | zero => exact absurd HA.out (by simp [changeforgeref1_TwoFault_0.j0])
    | succ kj3 =>
      have H := HA.out;clear HA;simp only [changeforgeref1_TwoFault_0.j0] at H
      by_cases c17 : x15_3 = true
      · subst c17;have H1 : ((changeforgeref1_LinesCode.f l1).bind fun t156 => ((changeforgeref1_At.f t156 (-2)).bind fun bt157 => (some (bt157.1, bt157.2)))) = some (r1, r2) := (by rw [if_pos rfl] at H;exact H);clear H;have H := H1;clear H1;replace H := Option.bind_eq_some_iff.mp H;obtain ⟨t156, A180, H⟩ := H;replace H : ((changeforgeref1_At.f t156 (-2)).bind fun bt157 => (some (bt157.1, bt157.2))) = some (r1, r2) := H;have A18 := Aside0.mk A180;clear A180;replace H := Option.bind_eq_some_iff.mp H;obtain ⟨⟨t157, t158⟩, A190, H⟩ := H;replace H : (some (t157, t158)) = some (r1, r2) := H;have A19 := Aside0.mk A190;clear A190;simp only [Option.some.injEq, Prod.mk.injEq] at H;obtain ⟨rfl, rfl⟩ := H
        go_wp2_with (first|((with_reducible refine gate_callee (f := 46) rfl ?_);refine goesL_ (some 17) rfl rfl Try.func46 (by kernel_rfl) rfl #[.slice A1 l1.length c1] rfl mA ?_;(with_reducible refine (changeforgeref1_LinesCode.calls _ _ l1 t156 _ ?side1 ?side2 A18.out).mono ?_);(case side1 => exact cBe HR1);(case side2 => exact HC1.out);rintro e w20 ⟨rfl, hb⟩;refine ⟨_, rfl, ?_⟩;replace BK151 := lJ BK151 hb;replace BK154 := lJ BK154 hb;replace HB := sBe HB hb;(try clear hb))|((with_reducible refine gate_callee (f := 19) rfl ?_);refine goesL_ (some 18) rfl rfl Try.func19 (by kernel_rfl) rfl #[.int .i64 t156, .int .i64 (-2)] rfl mA ?_;(with_reducible refine (changeforgeref1_At.calls t156 (-2) t157 t158 _ A19.out).mono ?_);rintro e w21 ⟨rfl, hb⟩;refine ⟨_, rfl, ?_⟩;replace BK151 := lJ BK151 hb;replace BK154 := lJ BK154 hb;replace HB := sBe HB hb;(try clear hb);have hnb22 := NB154_151.out;have hnc22 := NB151_154.out;have hcz23_0 := hC BK154 0 (.int .i64 t152);have hcz23_1 := hC BK154 1 (.int .i64 t153);have hfz23_0 := blk_frozen BK154.out 0;have hfz23_1 := blk_frozen BK154.out 1;have hcz24_0 := hC BK151 0 (.int .i64 0);have hcz24_1 := hC BK151 1 (.int .i64 0);have hfz24_0 := blk_frozen BK151.out 0;have hfz24_1 := blk_frozen BK151.out 1))
        refine bodyPost_ret (results_cell_row rfl _ _ gb151 24 #[.int .i64 t157, .int .i64 t158] (0, 0) _ rfl kK Try.underlying24 rfl (by kernel_rfl)) rfl ?_;exact ⟨rW, eB⟩
      · replace c17 := Bool.eq_false_iff.mpr c17;subst c17;have H1 : (some (t152, t153)) = some (r1, r2) := (by rw [if_neg (show ¬ (false = true) by decide)] at H;exact H);clear H;have H := H1;clear H1;simp only [Option.some.injEq, Prod.mk.injEq] at H;obtain ⟨rfl, rfl⟩ := H;have hnb25 := NB154_151.out;have hnc25 := NB151_154.out;have hcz26_0 : wc.cell? ⟨gb154, 0, none⟩ = some (.int .i64 t152) := (blk_cell BK154.out 0).trans rfl;have hcz26_1 : wc.cell? ⟨gb154, 1, none⟩ = some (.int .i64 t153) := (blk_cell BK154.out 1).trans rfl;have hfz26_0 := blk_frozen BK154.out 0;have hfz26_1 := blk_frozen BK154.out 1;have hcz27_0 : wc.cell? ⟨gb151, 0, none⟩ = some (.int .i64 0) := (blk_cell BK151.out 0).trans rfl;have hcz27_1 : wc.cell? ⟨gb151, 1, none⟩ = some (.int .i64 0) := (blk_cell BK151.out 1).trans rfl;have hfz27_0 := blk_frozen BK151.out 0;have hfz27_1 := blk_frozen BK151.out 1
        go_wp2
        refine bodyPost_ret (results_cell_row rfl _ _ gb151 24 #[.int .i64 t152, .int .i64 t153] (0, 0) _ rfl kK Try.underlying24 rfl (by kernel_rfl)) rfl ?_;exact ⟨rW, eB⟩

/-! ### changeforgeref1_TwoFault: function 34 -/
def changeforgeref1_TwoFault.f (l0 : List ByteArray) (l1 : List ByteArray) : Option (Int × Int) :=  some (twoFault l0 l1)
theorem changeforgeref1_TwoFault.calls (A0 : Option Addr) (c0 : Nat) (l0 : List ByteArray) (A1 : Option Addr) (c1 : Nat) (l1 : List ByteArray) (r1 : Int) (r2 : Int) (w : World) (hr0 : Kd.C Kd.string w A0 l0.length l0) (hc0 : l0.length ≤ c0) (hr1 : Kd.C Kd.string w A1 l1.length l1) (hc1 : l1.length ≤ c1) (h : changeforgeref1_TwoFault.f l0 l1 = some (r1, r2)) :
    Calls Try.prog 34 #[.slice A0 l0.length c0, .slice A1 l1.length c1] w fun e w' => e = .returned (.agg #[.int .i64 r1, .int .i64 r2]) ∧ Below w.heap.size w w' := by
  have h' : changeforgeref1_TwoFault_0.f 1 l0 l1 = some (r1, r2) := by
    rw [← h]
    unfold changeforgeref1_TwoFault_0.f changeforgeref1_TwoFault.f twoFault
    simp only [changeforgeref1_LinesFault.f, changeforgeref1_LinesCode.f, Option.bind_some, changeforgeref1_TwoFault_0.j0, changeforgeref1_At.f]
    rcases linesFault_or l0 with c | c
    · rw [c, if_pos rfl, if_pos rfl]
      by_cases c2 : (linesFault l1).1 = 0
      · rw [if_pos c2, c2]; rfl
      · rw [if_neg c2]
        simp [c2]
    · rw [if_neg c, if_neg (fun e => c (congrArg Prod.fst e))]
      simp
  exact (changeforgeref1_TwoFault_0.calls (1) A0 c0 l0 A1 c1 l1 r1 r2 w hr0 hc0 hr1 hc1 (h'))


end Go.Proofs.Ytdefgagmgbkklaa.PC
