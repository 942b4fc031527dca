/- Printed by a program of this session out of the translation: Lean functions for Go functions, and proofs that the Go functions answer the same. -/
import Derived.Test.YtdnnkhogpobjbaaPM0
import Derived.Test.YtdnnkhogpobjbaaPM3
namespace Go.Proofs.Ytdnnkhogpobjbaa.PM
open Go.RowKit Go.Proofs.Ytdnnkhogpobjbaa.Pre Go.Proofs.YtdnnkhogpobjbaaW.PrintWords Go.Proofs.YtdnnkhogpobjbaaW.PrintLast Go.Proofs.YtdnnkhogpobjbaaW.PrintMore
attribute [local go_sem] max2_int min2_int max_two min_two max_three min_three max_four min_four   -- for this text's walks alone
set_option linter.unusedVariables false
set_option linter.unusedSimpArgs false

/-! ### changeforgeref1_PatchFault: function 20 -/
mutual
def changeforgeref1_PatchFault.l0 : Nat → Int → List (S47) → Option (Int × Int)
  | 0, _, _ => none
  | k + 1, x3, x160000 => if x3 < (x160000.length : Int) then (if 0 ≤ x3 then (if ((rd_T47 x160000 x3).f0) < 0 then (changeforgeref1_PatchFault.j1 k x3 true x160000 ((rd_T47 x160000 x3).f0) ((rd_T47 x160000 x3).f1) ((rd_T47 x160000 x3).f2)) else (changeforgeref1_PatchFault.j1 k x3 (decide (((rd_T47 x160000 x3).f0) > 120)) x160000 ((rd_T47 x160000 x3).f0) ((rd_T47 x160000 x3).f1) ((rd_T47 x160000 x3).f2))) else (none)) else (some (0, 0))
def changeforgeref1_PatchFault.j1 : Nat → Int → Bool → List (S47) → Int → List ByteArray → List ByteArray → Option (Int × Int)
  | 0, _, _, _, _, _, _ => none
  | k + 1, x3, x31, x160000, x165000, x165001, x165002 => if x31 = true then ((changeforgeref1_At.f 3 x3).bind fun bt165 => (some (bt165.1, bt165.2))) else ((changeforgeref1_LinesCode.f x165001).bind fun t167 => (if t167 = 0 then ((changeforgeref1_LinesCode.f x165002).bind fun t170 => (if t170 = 0 then (if (wrap64 ((x165001.length : Int) + (x165002.length : Int))) = 0 then (changeforgeref1_PatchFault.j2 k x3 true x160000 x165000 x165001 x165002) else (if x3 > 0 then (if 0 ≤ (wrap64 (x3 - 1)) then (if (wrap64 (x3 - 1)) < (x160000.length : Int) then ((changeforgeref1_End.f ((rd_T47 x160000 (wrap64 (x3 - 1))).f0) ((rd_T47 x160000 (wrap64 (x3 - 1))).f1) ((rd_T47 x160000 (wrap64 (x3 - 1))).f2)).bind fun t174 => (changeforgeref1_PatchFault.j2 k x3 (decide (x165000 ≤ t174)) x160000 x165000 x165001 x165002)) else (none)) else (none)) else (changeforgeref1_PatchFault.j2 k x3 false x160000 x165000 x165001 x165002))) else ((changeforgeref1_At.f t170 x3).bind fun bt171 => (some (bt171.1, bt171.2))))) else ((changeforgeref1_At.f t167 x3).bind fun bt168 => (some (bt168.1, bt168.2)))))
def changeforgeref1_PatchFault.j2 : Nat → Int → Bool → List (S47) → Int → List ByteArray → List ByteArray → Option (Int × Int)
  | 0, _, _, _, _, _, _ => none
  | k + 1, x3, x73, x160000, x165000, x165001, x165002 => if x73 = true then ((changeforgeref1_At.f 5 x3).bind fun bt175 => (some (bt175.1, bt175.2))) else ((changeforgeref1_End.f x165000 x165001 x165002).bind fun t177 => (if t177 > 120 then ((changeforgeref1_At.f 3 x3).bind fun bt178 => (some (bt178.1, bt178.2))) else (changeforgeref1_PatchFault.l0 k (wrap64 (x3 + 1)) x160000)))
end
def changeforgeref1_PatchFault.f (k : Nat) (l0_0 : List (S47)) : Option (Int × Int) := if (l0_0.length : Int) > 130 then ((changeforgeref1_At.f 2 (-1)).bind fun bt161 => (some (bt161.1, bt161.2))) else (changeforgeref1_PatchFault.l0 k 0 l0_0)
theorem changeforgeref1_PatchFault.mono_l : ∀ k, (∀ y0 y1, LeO (changeforgeref1_PatchFault.l0 k y0 y1) (changeforgeref1_PatchFault.l0 (k + 1) y0 y1)) ∧ (∀ y0 y1 y2 y3 y4 y5, LeO (changeforgeref1_PatchFault.j1 k y0 y1 y2 y3 y4 y5) (changeforgeref1_PatchFault.j1 (k + 1) y0 y1 y2 y3 y4 y5)) ∧ (∀ y0 y1 y2 y3 y4 y5, LeO (changeforgeref1_PatchFault.j2 k y0 y1 y2 y3 y4 y5) (changeforgeref1_PatchFault.j2 (k + 1) y0 y1 y2 y3 y4 y5))
  | 0 => ⟨fun _ _ r h => by simp [changeforgeref1_PatchFault.l0] at h, fun _ _ _ _ _ _ r h => by simp [changeforgeref1_PatchFault.j1] at h, fun _ _ _ _ _ _ r h => by simp [changeforgeref1_PatchFault.j2] at h⟩
  | k + 1 => by
    obtain ⟨ih0, ih1, ih2⟩ := changeforgeref1_PatchFault.mono_l k;refine ⟨?_, ?_, ?_⟩
    · intro y0 y1
      unfold changeforgeref1_PatchFault.l0
      repeat' first
      | (with_reducible exact ih0 _ _)
      | (with_reducible exact ih1 _ _ _ _ _ _)
      | (with_reducible exact ih2 _ _ _ _ _ _)
      | (with_reducible exact LeO.refl _)
      | (with_reducible exact LeO.none _)
      | (with_reducible refine LeO.ite ?_ ?_)
      | (with_reducible refine LeO.bind ?_ (fun _ => ?_))
      | exact ih0 _ _
      | exact ih1 _ _ _ _ _ _
      | exact ih2 _ _ _ _ _ _
      | exact LeO.none _
      | refine LeO.ite ?_ ?_
      | refine LeO.bind ?_ (fun _ => ?_)
    · intro y0 y1 y2 y3 y4 y5
      unfold changeforgeref1_PatchFault.j1
      repeat' first
      | (with_reducible exact ih0 _ _)
      | (with_reducible exact ih1 _ _ _ _ _ _)
      | (with_reducible exact ih2 _ _ _ _ _ _)
      | (with_reducible exact LeO.refl _)
      | (with_reducible exact LeO.none _)
      | (with_reducible refine LeO.ite ?_ ?_)
      | (with_reducible refine LeO.bind ?_ (fun _ => ?_))
      | exact ih0 _ _
      | exact ih1 _ _ _ _ _ _
      | exact ih2 _ _ _ _ _ _
      | exact LeO.none _
      | refine LeO.ite ?_ ?_
      | refine LeO.bind ?_ (fun _ => ?_)
    · intro y0 y1 y2 y3 y4 y5
      unfold changeforgeref1_PatchFault.j2
      repeat' first
      | (with_reducible exact ih0 _ _)
      | (with_reducible exact ih1 _ _ _ _ _ _)
      | (with_reducible exact ih2 _ _ _ _ _ _)
      | (with_reducible exact LeO.refl _)
      | (with_reducible exact LeO.none _)
      | (with_reducible refine LeO.ite ?_ ?_)
      | (with_reducible refine LeO.bind ?_ (fun _ => ?_))
      | exact ih0 _ _
      | exact ih1 _ _ _ _ _ _
      | exact ih2 _ _ _ _ _ _
      | exact LeO.none _
      | refine LeO.ite ?_ ?_
      | refine LeO.bind ?_ (fun _ => ?_)
theorem changeforgeref1_PatchFault.mono : ∀ a0 k, LeO (changeforgeref1_PatchFault.f k a0) (changeforgeref1_PatchFault.f (k + 1) a0) := by
  intro a0 k
  obtain ⟨ih0, ih1, ih2⟩ := changeforgeref1_PatchFault.mono_l k
  unfold changeforgeref1_PatchFault.f
  repeat' first
      | (with_reducible exact ih0 _ _)
      | (with_reducible exact ih1 _ _ _ _ _ _)
      | (with_reducible exact ih2 _ _ _ _ _ _)
      | (with_reducible exact LeO.refl _)
      | (with_reducible exact LeO.none _)
      | (with_reducible refine LeO.ite ?_ ?_)
      | (with_reducible refine LeO.bind ?_ (fun _ => ?_))
      | exact ih0 _ _
      | exact ih1 _ _ _ _ _ _
      | exact ih2 _ _ _ _ _ _
      | exact LeO.none _
      | refine LeO.ite ?_ ?_
      | refine LeO.bind ?_ (fun _ => ?_)
def changeforgeref1_PatchFault.T15 : Bool × List (List Nat × List Nat) := (true, [([], []), ([0], [0]), ([1], [1]), ([], []), ([3], [3]), ([4], [4]), ([2, 5], [2, 5]), ([6], [6]), ([7], [7]), ([8], [8]), ([9, 8], [8, 9]), ([10, 8, 8], [8, 10]), ([11], [11]), ([12, 11], [11, 12]), ([11], [11]), ([14, 11], [11, 14]), ([11], [11]), ([16, 11], [11, 16]), ([15, 17, 11], [11, 15, 17]), ([18, 11], [11, 18]), ([19, 11, 11], [11, 19]), ([13, 20, 11], [11, 13, 20]), ([11, 21, 8], [8, 11, 21]), ([8, 22], [8, 22])])
def changeforgeref1_PatchFault.B15 : List Nat := [0, 1, 3, 0, 8, 24, 63, 127, 255, 511, 1023, 2047, 4095, 8191, 4095, 20479, 4095, 69631, 249855, 511999, 1036287, 2097151, 4194303, 8388607]
theorem changeforgeref1_PatchFault.tab15 : rtab .any (opsOf Try.f20 15) = changeforgeref1_PatchFault.T15 := by kernel_rfl
theorem changeforgeref1_PatchFault.bits15 : waitsOk changeforgeref1_PatchFault.T15.2 changeforgeref1_PatchFault.B15 = true := by kernel_rfl
set_option maxHeartbeats 8000000 in
set_option maxRecDepth 100000 in
theorem changeforgeref1_PatchFault.calls (k : Nat) (A0_0 : Option Addr) (c0_0 : Nat) (l0_0 : List (S47)) (r1 : Int) (r2 : Int) (w : World) (hr0_0 : Kd.C k47 w A0_0 l0_0.length l0_0) (hc0_0 : l0_0.length ≤ c0_0) (h : changeforgeref1_PatchFault.f k l0_0 = some (r1, r2)) :
    Calls Try.prog 20 #[.agg #[.slice A0_0 l0_0.length c0_0]] w fun e w' => e = .returned (.agg #[.int .i64 r1, .int .i64 r2]) ∧ Below w.heap.size w w' := by
  have hu24 := Try.underlying24;have hu27 := Try.underlying27;have hu47 := Try.underlying47;have HR0_0 := Aside0.mk hr0_0;have HC0_0 := Aside0.mk hc0_0;clear hr0_0 hc0_0;have HB := Aside0.mk (Below.refl w.heap.size w);have H : (if (l0_0.length : Int) > 130 then ((changeforgeref1_At.f 2 (-1)).bind fun bt161 => (some (bt161.1, bt161.2))) else (changeforgeref1_PatchFault.l0 k 0 l0_0)) = some (r1, r2) := h;clear h
  by_cases c2 : (l0_0.length : Int) > 130
  · rw [if_pos c2] at H;have c2b0 : decide (130 < (l0_0.length : Int)) = true := decide_eq_true c2;have c2b1 : decide (130 < l0_0.length) = true := decide_eq_true (by omega);clear c2;replace H := Option.bind_eq_some_iff.mp H;obtain ⟨⟨t161, t162⟩, A30, H⟩ := H;replace H : (some (t161, t162)) = some (r1, r2) := H;have A3 := Aside0.mk A30;clear A30;simp only [Option.some.injEq, Prod.mk.injEq] at H;obtain ⟨rfl, rfl⟩ := H
    go_enter Try.func20, Try.ntmps20
    go_wp2_with (first|((with_reducible refine gate_dst (N := 1) rfl ?_);refine bE 1 #[.slice A0_0 l0_0.length c0_0] 24 ?_;intro gb159 hg w4 hbox hb;have BK159 := Aside0.mk (hbox);have GW159 := gBe HB hg;have GE159 := gBe HB hg;replace HB := sBe HB hb;clear hb hbox hg)|((with_reducible refine gate_dst (N := 2) rfl ?_);refine bE 2 #[.int .i64 0, .int .i64 0] 27 ?_;intro gb160 hg w5 hbox hb;have BK160 := Aside0.mk (hbox);have GW160 := gBe HB hg;have GE160 := gBe HB hg;have NB159_160 := nL BK159 hg;have NB160_159 := nG BK159 hg;replace BK159 := lJ BK159 hb;replace HB := sBe HB hb;clear hb hbox hg;have hnb6 := NB159_160.out;have hnc6 := NB160_159.out;have hcz7_0 := hC BK159 0 (.slice A0_0 l0_0.length c0_0);have hfz7_0 := blk_frozen BK159.out 0)|((with_reducible refine gate_callee (f := 36) rfl ?_);refine goesL_ (some 11) rfl rfl Try.func36 (by kernel_rfl) rfl #[.int .i64 2, .int .i64 (-1)] rfl mA ?_;(with_reducible refine (changeforgeref1_At.calls 2 (-1) t161 t162 _ A3.out).mono ?_);rintro e w8 ⟨rfl, hb⟩;refine ⟨_, rfl, ?_⟩;replace BK159 := lJ BK159 hb;replace BK160 := lJ BK160 hb;replace HB := sBe HB hb;(try clear hb);(try clear hb2);(try clear hk);(try clear hi);have hcz9_0 := hC BK160 0 (.int .i64 0);have hcz9_1 := hC BK160 1 (.int .i64 0);have hfz9_0 := blk_frozen BK160.out 0;have hfz9_1 := blk_frozen BK160.out 1))
    refine bodyPost_ret (results_cell_row rfl _ _ gb160 27 #[.int .i64 t161, .int .i64 t162] (0, 0) _ rfl kK Try.underlying27 rfl (by kernel_rfl)) rfl ?_;exact ⟨rW, eB⟩
  · rw [if_neg c2] at H;have c2b0 : decide (130 < (l0_0.length : Int)) = false := decide_eq_false c2;have c2b1 : decide (130 < l0_0.length) = false := decide_eq_false (by omega);clear c2;have H' := Aside0.mk H;clear H
    go_enter Try.func20, Try.ntmps20
    go_wp2_with (first|((with_reducible refine gate_dst (N := 1) rfl ?_);refine bE 1 #[.slice A0_0 l0_0.length c0_0] 24 ?_;intro gb159 hg w10 hbox hb;have BK159 := Aside0.mk (hbox);have GW159 := gBe HB hg;have GE159 := gBe HB hg;replace HB := sBe HB hb;clear hb hbox hg)|((with_reducible refine gate_dst (N := 2) rfl ?_);refine bE 2 #[.int .i64 0, .int .i64 0] 27 ?_;intro gb160 hg w11 hbox hb;have BK160 := Aside0.mk (hbox);have GW160 := gBe HB hg;have GE160 := gBe HB hg;have NB159_160 := nL BK159 hg;have NB160_159 := nG BK159 hg;replace BK159 := lJ BK159 hb;replace HB := sBe HB hb;clear hb hbox hg;have hnb12 := NB159_160.out;have hnc12 := NB160_159.out;have hcz13_0 := hC BK159 0 (.slice A0_0 l0_0.length c0_0);have hfz13_0 := blk_frozen BK159.out 0))
    go_loopg [3] k (fun kq v3 w' => ∃ (x3_1 : Int) (x161000_1 : Int) (x161001_1 : Int), v3 = .int .i64 x3_1 ∧ Aside0 (changeforgeref1_PatchFault.l0 kq x3_1 l0_0 = some (r1, r2)) ∧ Aside0 (kq ≤ k) ∧ Aside0 (w'.heap[gb159]? = some (.cells #[(.slice A0_0 l0_0.length c0_0)] 24 (0, 0))) ∧ Aside0 (w'.heap[gb160]? = some (.cells #[.int .i64 x161000_1, .int .i64 x161001_1] 27 (0, 0))) ∧ Aside0 (Below w.heap.size w w'))
    case atStart => exact ⟨(0), (0), (0), (by first|rfl|(simp;done)|(simp [*];done)), H', ⟨Nat.le_refl _⟩, ⟨kK⟩, ⟨kK⟩, ⟨eB⟩⟩
    case round =>
      clear H'
      try clear c1
      try clear c2
      try clear c2b0
      try clear c2b1
      try clear p2
      try clear c3
      try clear c6
      try clear c12
      try clear hcz13_0
      try clear hcz7_0
      try clear hcz9_0
      try clear hcz9_1
      try clear hfz13_0
      try clear hfz7_0
      try clear hfz9_0
      try clear hfz9_1
      obtain ⟨x3_1, x161000_1, x161001_1, rfl, HA, HK1, BK159, BK160, HB⟩ := hrel
      cases gk with
      | zero => exact absurd HA.out (by simp [changeforgeref1_PatchFault.l0])
      | succ k1 =>
        have H := HA.out;clear HA;simp only [changeforgeref1_PatchFault.l0] at H
        by_cases c14 : x3_1 < (l0_0.length : Int)
        · rw [if_pos c14] at H;have c14b0 : decide (x3_1 < (l0_0.length : Int)) = true := decide_eq_true c14;clear c14
          by_cases c15 : 0 ≤ x3_1
          · rw [if_pos c15] at H;have c15b0 : decide (0 ≤ x3_1) = true := decide_eq_true c15;clear c15;have HC16 := Aside0.mk H;clear H;have hnb17 := NB159_160.out;have hnc17 := NB160_159.out;have hcz18_0 : wr.cell? ⟨gb159, 0, none⟩ = some (.slice A0_0 l0_0.length c0_0) := (blk_cell BK159.out 0).trans rfl;have hfz18_0 := blk_frozen BK159.out 0;have p163 : 0 ≤ (x3_1 : Int) := dA;have q163 : x3_1 < (l0_0.length : Int) := dA;obtain ⟨ad163, A163_1, c163_1, A163_2, c163_2, e163, hx163_0, hx163_1, hx163_2, hl163_1, hi163_1, hl163_2, hi163_2⟩ := at_T47 HR0_0.out x3_1 p163 q163
            cases e163
            replace hx163_0 := (hX HB hx163_0:);replace hx163_1 := (hX HB hx163_1:);replace hx163_2 := (hX HB hx163_2:);have HR163_1 := Aside0.mk hi163_1;have HC163_1 := Aside0.mk hl163_1;clear hi163_1 hl163_1;have HR163_2 := Aside0.mk hi163_2;have HC163_2 := Aside0.mk hl163_2;clear hi163_2 hl163_2;replace p163 := eq_true p163;replace q163 := eq_true q163
            go_upto_region 7 with (first|((with_reducible refine gate_dst (N := 4) rfl ?_);refine bE 4 #[.int .i64 0, .slice none 0 0, .slice none 0 0] 47 ?_;intro gb164 hg w19 hbox hb;have BK164 := Aside0.mk (hbox);have GW164 := gBe HB hg;have GE164 := gBe HB hg;have NB159_164 := nL BK159 hg;have NB164_159 := nG BK159 hg;have NB160_164 := nL BK160 hg;have NB164_160 := nG BK160 hg;replace BK159 := lJ BK159 hb;replace BK160 := lJ BK160 hb;replace HB := sBe HB hb;clear hb hbox hg;have hnb20 := NB164_159.out;have hnc20 := NB159_164.out;have hnb21 := NB164_160.out;have hnc21 := NB160_164.out;have hcz22_0 := hC BK164 0 (.int .i64 0);have hcz22_1 := hC BK164 1 (.slice none 0 0);have hcz22_2 := hC BK164 2 (.slice none 0 0);have hfz22_0 := blk_frozen BK164.out 0;have hfz22_1 := blk_frozen BK164.out 1;have hfz22_2 := blk_frozen BK164.out 2))
            (try simp only [Act.put, sA, sB, sC])
            go_cut [31] (fun v31 wc => ∃ (kq : Nat) (x31_15 : Bool), v31 = .bool x31_15 ∧ Aside0 (changeforgeref1_PatchFault.j1 kq x3_1 x31_15 l0_0 ((rd_T47 l0_0 x3_1).f0) ((rd_T47 l0_0 x3_1).f1) ((rd_T47 l0_0 x3_1).f2) = some (r1, r2)) ∧ Aside0 (kq ≤ k1) ∧ Aside0 (wc.heap[gb159]? = some (.cells #[(.slice (some ad163) l0_0.length c0_0)] 24 (0, 0))) ∧ Aside0 (wc.heap[gb160]? = some (.cells #[.int .i64 x161000_1, .int .i64 x161001_1] 27 (0, 0))) ∧ Aside0 (wc.heap[gb164]? = some (.cells #[.int .i64 ((rd_T47 l0_0 x3_1).f0), (.slice A163_1 ((rd_T47 l0_0 x3_1).f1).length c163_1), (.slice A163_2 ((rd_T47 l0_0 x3_1).f2).length c163_2)] 47 (0, 0))) ∧ Aside0 (Below w.heap.size w wc))
            case first =>
              have H := HC16.out;clear HC16
              by_cases c23 : ((rd_T47 l0_0 x3_1).f0) < 0
              · rw [if_pos c23] at H;have c23b0 : decide (((rd_T47 l0_0 x3_1).f0) < 0) = true := decide_eq_true c23;clear c23
                (first|rw [c23b0]|(simp only [i64_w, i32_w];rw [c23b0])|skip)
                have H' := Aside0.mk H;clear H;have hnb24 := NB164_159.out;have hnc24 := NB159_164.out;have hnb25 := NB164_160.out;have hnc25 := NB160_164.out;have hcz26_0 := hC BK164 0 (.int .i64 0);have hcz26_1 := hC BK164 1 (.slice none 0 0);have hcz26_2 := hC BK164 2 (.slice none 0 0);have hfz26_0 := blk_frozen BK164.out 0;have hfz26_1 := blk_frozen BK164.out 1;have hfz26_2 := blk_frozen BK164.out 2
                go_wp2
                go_meet
                case rel => exact ⟨_, (true), (by first|rfl|(simp;done)|(simp [*];done)), H', ⟨by have := HK1.out;first|omega|exact Nat.le_refl _⟩, ⟨kK⟩, ⟨kK⟩, ⟨kK⟩, ⟨eB⟩⟩
              · rw [if_neg c23] at H;have c23b0 : decide (((rd_T47 l0_0 x3_1).f0) < 0) = false := decide_eq_false c23;clear c23
                (first|rw [c23b0]|(simp only [i64_w, i32_w];rw [c23b0])|skip)
                have H' := Aside0.mk H;clear H;have hnb27 := NB164_159.out;have hnc27 := NB159_164.out;have hnb28 := NB164_160.out;have hnc28 := NB160_164.out;have hcz29_0 := hC BK164 0 (.int .i64 0);have hcz29_1 := hC BK164 1 (.slice none 0 0);have hcz29_2 := hC BK164 2 (.slice none 0 0);have hfz29_0 := blk_frozen BK164.out 0;have hfz29_1 := blk_frozen BK164.out 1;have hfz29_2 := blk_frozen BK164.out 2
                go_wp2
                go_meet
                case rel => exact ⟨_, (decide (((rd_T47 l0_0 x3_1).f0) > 120)), (by first|rfl|(simp;done)|(simp [*];done)), H', ⟨by have := HK1.out;first|omega|exact Nat.le_refl _⟩, ⟨kK⟩, ⟨kK⟩, ⟨kK⟩, ⟨eB⟩⟩
            case rest =>
              clear HC16
              try clear c1
              try clear p1
              try clear q1
              try clear hx1
              try clear c2
              try clear c2b0
              try clear c2b1
              try clear p2
              try clear c3
              try clear c6
              try clear c12
              try clear c14
              try clear c14b0
              try clear c15
              try clear c15b0
              try clear c16
              try clear p16
              try clear q16
              try clear hx16
              try clear c17
              try clear c20
              try clear c21
              try clear c23
              try clear c23b0
              try clear c24
              try clear c25
              try clear c27
              try clear c28
              try clear hcz13_0
              try clear hcz18_0
              try clear hcz22_0
              try clear hcz22_1
              try clear hcz22_2
              try clear hcz26_0
              try clear hcz26_1
              try clear hcz26_2
              try clear hcz29_0
              try clear hcz29_1
              try clear hcz29_2
              try clear hcz7_0
              try clear hcz9_0
              try clear hcz9_1
              try clear hfz13_0
              try clear hfz18_0
              try clear hfz22_0
              try clear hfz22_1
              try clear hfz22_2
              try clear hfz26_0
              try clear hfz26_1
              try clear hfz26_2
              try clear hfz29_0
              try clear hfz29_1
              try clear hfz29_2
              try clear hfz7_0
              try clear hfz9_0
              try clear hfz9_1
              try clear hx163_0
              try clear hx163_1
              try clear hx163_2
              try clear p163
              try clear p2
              try clear q163
              obtain ⟨kq, x31_15, rfl, HA, HJ15, BK159, BK160, BK164, HB⟩ := hcut
              cases kq with
              | zero => exact absurd HA.out (by simp [changeforgeref1_PatchFault.j1])
              | succ kj15 =>
                have H := HA.out;clear HA;simp only [changeforgeref1_PatchFault.j1] at H
                by_cases c30 : x31_15 = true
                · subst c30;have H1 : ((changeforgeref1_At.f 3 x3_1).bind fun bt165 => (some (bt165.1, bt165.2))) = some (r1, r2) := (by rw [if_pos rfl] at H;exact H);clear H;have H := H1;clear H1;replace H := Option.bind_eq_some_iff.mp H;obtain ⟨⟨t165, t166⟩, A310, H⟩ := H;replace H : (some (t165, t166)) = some (r1, r2) := H;have A31 := Aside0.mk A310;clear A310;simp only [Option.some.injEq, Prod.mk.injEq] at H;obtain ⟨rfl, rfl⟩ := H
                  go_wp2_with (first|((with_reducible refine gate_callee (f := 36) rfl ?_);refine goesL_ (some 33) rfl rfl Try.func36 (by kernel_rfl) rfl #[.int .i64 3, .int .i64 x3_1] rfl mA ?_;(with_reducible refine (changeforgeref1_At.calls 3 x3_1 t165 t166 _ A31.out).mono ?_);rintro e w32 ⟨rfl, hb⟩;refine ⟨_, rfl, ?_⟩;replace BK159 := lJ BK159 hb;replace BK160 := lJ BK160 hb;replace BK164 := lJ BK164 hb;replace HB := sBe HB hb;(try clear hb);(try clear hb2);(try clear hk);(try clear hi);have hnb33 := NB160_159.out;have hnc33 := NB159_160.out;have hnb34 := NB160_164.out;have hnc34 := NB164_160.out;have hcz35_0 := hC BK160 0 (.int .i64 x161000_1);have hcz35_1 := hC BK160 1 (.int .i64 x161001_1);have hfz35_0 := blk_frozen BK160.out 0;have hfz35_1 := blk_frozen BK160.out 1))
                  refine bodyPost_ret (results_cell_row rfl _ _ gb160 27 #[.int .i64 t165, .int .i64 t166] (0, 0) _ rfl kK Try.underlying27 rfl (by kernel_rfl)) rfl ?_;exact ⟨rW, eB⟩
                · replace c30 := Bool.eq_false_iff.mpr c30;subst c30;have H1 : ((changeforgeref1_LinesCode.f ((rd_T47 l0_0 x3_1).f1)).bind fun t167 => (if t167 = 0 then ((changeforgeref1_LinesCode.f ((rd_T47 l0_0 x3_1).f2)).bind fun t170 => (if t170 = 0 then (if (wrap64 ((((rd_T47 l0_0 x3_1).f1).length : Int) + (((rd_T47 l0_0 x3_1).f2).length : Int))) = 0 then (changeforgeref1_PatchFault.j2 kj15 x3_1 true l0_0 ((rd_T47 l0_0 x3_1).f0) ((rd_T47 l0_0 x3_1).f1) ((rd_T47 l0_0 x3_1).f2)) else (if x3_1 > 0 then (if 0 ≤ (wrap64 (x3_1 - 1)) then (if (wrap64 (x3_1 - 1)) < (l0_0.length : Int) then ((changeforgeref1_End.f ((rd_T47 l0_0 (wrap64 (x3_1 - 1))).f0) ((rd_T47 l0_0 (wrap64 (x3_1 - 1))).f1) ((rd_T47 l0_0 (wrap64 (x3_1 - 1))).f2)).bind fun t174 => (changeforgeref1_PatchFault.j2 kj15 x3_1 (decide (((rd_T47 l0_0 x3_1).f0) ≤ t174)) l0_0 ((rd_T47 l0_0 x3_1).f0) ((rd_T47 l0_0 x3_1).f1) ((rd_T47 l0_0 x3_1).f2))) else (none)) else (none)) else (changeforgeref1_PatchFault.j2 kj15 x3_1 false l0_0 ((rd_T47 l0_0 x3_1).f0) ((rd_T47 l0_0 x3_1).f1) ((rd_T47 l0_0 x3_1).f2)))) else ((changeforgeref1_At.f t170 x3_1).bind fun bt171 => (some (bt171.1, bt171.2))))) else ((changeforgeref1_At.f t167 x3_1).bind fun bt168 => (some (bt168.1, bt168.2))))) = some (r1, r2) := (by rw [if_neg (show ¬ (false = true) by decide)] at H;exact H);clear H;have H := H1;clear H1;replace H := Option.bind_eq_some_iff.mp H;obtain ⟨t167, A360, H⟩ := H;replace H : (if t167 = 0 then ((changeforgeref1_LinesCode.f ((rd_T47 l0_0 x3_1).f2)).bind fun t170 => (if t170 = 0 then (if (wrap64 ((((rd_T47 l0_0 x3_1).f1).length : Int) + (((rd_T47 l0_0 x3_1).f2).length : Int))) = 0 then (changeforgeref1_PatchFault.j2 kj15 x3_1 true l0_0 ((rd_T47 l0_0 x3_1).f0) ((rd_T47 l0_0 x3_1).f1) ((rd_T47 l0_0 x3_1).f2)) else (if x3_1 > 0 then (if 0 ≤ (wrap64 (x3_1 - 1)) then (if (wrap64 (x3_1 - 1)) < (l0_0.length : Int) then ((changeforgeref1_End.f ((rd_T47 l0_0 (wrap64 (x3_1 - 1))).f0) ((rd_T47 l0_0 (wrap64 (x3_1 - 1))).f1) ((rd_T47 l0_0 (wrap64 (x3_1 - 1))).f2)).bind fun t174 => (changeforgeref1_PatchFault.j2 kj15 x3_1 (decide (((rd_T47 l0_0 x3_1).f0) ≤ t174)) l0_0 ((rd_T47 l0_0 x3_1).f0) ((rd_T47 l0_0 x3_1).f1) ((rd_T47 l0_0 x3_1).f2))) else (none)) else (none)) else (changeforgeref1_PatchFault.j2 kj15 x3_1 false l0_0 ((rd_T47 l0_0 x3_1).f0) ((rd_T47 l0_0 x3_1).f1) ((rd_T47 l0_0 x3_1).f2)))) else ((changeforgeref1_At.f t170 x3_1).bind fun bt171 => (some (bt171.1, bt171.2))))) else ((changeforgeref1_At.f t167 x3_1).bind fun bt168 => (some (bt168.1, bt168.2)))) = some (r1, r2) := H;have A36 := Aside0.mk A360;clear A360
                  by_cases c37 : t167 = 0
                  · rw [if_pos c37] at H;have c37b0 : (t167 == 0) = true := beq_iff_eq.mpr c37;have c37b1 : (t167 != 0) = false := bne_eq_false_iff_eq.mpr c37;clear c37;replace H := Option.bind_eq_some_iff.mp H;obtain ⟨t170, A380, H⟩ := H;replace H : (if t170 = 0 then (if (wrap64 ((((rd_T47 l0_0 x3_1).f1).length : Int) + (((rd_T47 l0_0 x3_1).f2).length : Int))) = 0 then (changeforgeref1_PatchFault.j2 kj15 x3_1 true l0_0 ((rd_T47 l0_0 x3_1).f0) ((rd_T47 l0_0 x3_1).f1) ((rd_T47 l0_0 x3_1).f2)) else (if x3_1 > 0 then (if 0 ≤ (wrap64 (x3_1 - 1)) then (if (wrap64 (x3_1 - 1)) < (l0_0.length : Int) then ((changeforgeref1_End.f ((rd_T47 l0_0 (wrap64 (x3_1 - 1))).f0) ((rd_T47 l0_0 (wrap64 (x3_1 - 1))).f1) ((rd_T47 l0_0 (wrap64 (x3_1 - 1))).f2)).bind fun t174 => (changeforgeref1_PatchFault.j2 kj15 x3_1 (decide (((rd_T47 l0_0 x3_1).f0) ≤ t174)) l0_0 ((rd_T47 l0_0 x3_1).f0) ((rd_T47 l0_0 x3_1).f1) ((rd_T47 l0_0 x3_1).f2))) else (none)) else (none)) else (changeforgeref1_PatchFault.j2 kj15 x3_1 false l0_0 ((rd_T47 l0_0 x3_1).f0) ((rd_T47 l0_0 x3_1).f1) ((rd_T47 l0_0 x3_1).f2)))) else ((changeforgeref1_At.f t170 x3_1).bind fun bt171 => (some (bt171.1, bt171.2)))) = some (r1, r2) := H;have A38 := Aside0.mk A380;clear A380
                    by_cases c39 : t170 = 0
                    · rw [if_pos c39] at H;have c39b0 : (t170 == 0) = true := beq_iff_eq.mpr c39;have c39b1 : (t170 != 0) = false := bne_eq_false_iff_eq.mpr c39;clear c39;have HC40 := Aside0.mk H;clear H;have hnb41 := NB164_159.out;have hnc41 := NB159_164.out;have hnb42 := NB164_160.out;have hnc42 := NB160_164.out;have hcz43_0 : wc.cell? ⟨gb164, 0, none⟩ = some (.int .i64 ((rd_T47 l0_0 x3_1).f0)) := (blk_cell BK164.out 0).trans rfl;have hcz43_1 : wc.cell? ⟨gb164, 1, none⟩ = some (.slice A163_1 ((rd_T47 l0_0 x3_1).f1).length c163_1) := (blk_cell BK164.out 1).trans rfl;have hcz43_2 : wc.cell? ⟨gb164, 2, none⟩ = some (.slice A163_2 ((rd_T47 l0_0 x3_1).f2).length c163_2) := (blk_cell BK164.out 2).trans rfl;have hfz43_0 := blk_frozen BK164.out 0;have hfz43_1 := blk_frozen BK164.out 1;have hfz43_2 := blk_frozen BK164.out 2
                      go_upto_region 15 with (first|((with_reducible refine gate_callee (f := 35) rfl ?_);refine goesL_ (some 36) rfl rfl Try.func35 (by kernel_rfl) rfl #[.slice A163_1 ((rd_T47 l0_0 x3_1).f1).length c163_1] rfl mA ?_;(with_reducible refine (changeforgeref1_LinesCode.calls _ _ ((rd_T47 l0_0 x3_1).f1) t167 _ ?side1 ?side2 A36.out).mono ?_);(case side1 => exact cBe HR163_1);(case side2 => exact HC163_1.out);rintro e w44 ⟨rfl, hb⟩;refine ⟨_, rfl, ?_⟩;replace BK159 := lJ BK159 hb;replace BK160 := lJ BK160 hb;replace BK164 := lJ BK164 hb;replace HB := sBe HB hb;(try clear hb);(try clear hb2);(try clear hk);(try clear hi);have hcz45_0 := hC BK164 0 (.int .i64 ((rd_T47 l0_0 x3_1).f0));have hcz45_1 := hC BK164 1 (.slice A163_1 ((rd_T47 l0_0 x3_1).f1).length c163_1);have hcz45_2 := hC BK164 2 (.slice A163_2 ((rd_T47 l0_0 x3_1).f2).length c163_2);have hfz45_0 := blk_frozen BK164.out 0;have hfz45_1 := blk_frozen BK164.out 1;have hfz45_2 := blk_frozen BK164.out 2)|((with_reducible refine gate_callee (f := 35) rfl ?_);refine goesL_ (some 44) rfl rfl Try.func35 (by kernel_rfl) rfl #[.slice A163_2 ((rd_T47 l0_0 x3_1).f2).length c163_2] rfl mA ?_;(with_reducible refine (changeforgeref1_LinesCode.calls _ _ ((rd_T47 l0_0 x3_1).f2) t170 _ ?side1 ?side2 A38.out).mono ?_);(case side1 => exact cBe HR163_2);(case side2 => exact HC163_2.out);rintro e w46 ⟨rfl, hb⟩;refine ⟨_, rfl, ?_⟩;replace BK159 := lJ BK159 hb;replace BK160 := lJ BK160 hb;replace BK164 := lJ BK164 hb;replace HB := sBe HB hb;(try clear hb);(try clear hb2);(try clear hk);(try clear hi)))
                      (try simp only [Act.put, sA, sB, sC])
                      go_cut [73] (fun v73 wc => ∃ (kq : Nat) (x73_39 : Bool), v73 = .bool x73_39 ∧ Aside0 (changeforgeref1_PatchFault.j2 kq x3_1 x73_39 l0_0 ((rd_T47 l0_0 x3_1).f0) ((rd_T47 l0_0 x3_1).f1) ((rd_T47 l0_0 x3_1).f2) = some (r1, r2)) ∧ Aside0 (kq ≤ kj15) ∧ Aside0 (wc.heap[gb159]? = some (.cells #[(.slice (some ad163) l0_0.length c0_0)] 24 (0, 0))) ∧ Aside0 (wc.heap[gb160]? = some (.cells #[.int .i64 x161000_1, .int .i64 x161001_1] 27 (0, 0))) ∧ Aside0 (wc.heap[gb164]? = some (.cells #[.int .i64 ((rd_T47 l0_0 x3_1).f0), (.slice A163_1 ((rd_T47 l0_0 x3_1).f1).length c163_1), (.slice A163_2 ((rd_T47 l0_0 x3_1).f2).length c163_2)] 47 (0, 0))) ∧ Aside0 (Below w.heap.size w wc))
                      case first =>
                        have H := HC40.out;clear HC40
                        by_cases c47 : (wrap64 ((((rd_T47 l0_0 x3_1).f1).length : Int) + (((rd_T47 l0_0 x3_1).f2).length : Int))) = 0
                        · rw [if_pos c47] at H;have c47b0 : ((wrap64 ((((rd_T47 l0_0 x3_1).f1).length : Int) + (((rd_T47 l0_0 x3_1).f2).length : Int))) == 0) = true := beq_iff_eq.mpr c47;have c47b1 : ((wrap64 ((((rd_T47 l0_0 x3_1).f1).length : Int) + (((rd_T47 l0_0 x3_1).f2).length : Int))) != 0) = false := bne_eq_false_iff_eq.mpr c47;clear c47
                          (first|rw [c47b0]|(simp only [i64_w, i32_w];rw [c47b0])|skip)
                          have H' := Aside0.mk H;clear H
                          try go_wp2
                          replace BK159 := Aside0.mk (blk_drew BK159.out);replace BK160 := Aside0.mk (blk_drew BK160.out);replace BK164 := Aside0.mk (blk_drew BK164.out);replace HB := Aside0.mk (below_drew1 HB.out);refine start_ (n := 24) (S := fun w' => w'.cell? ⟨gb164, 0, none⟩ = some (.int .i64 ((rd_T47 l0_0 x3_1).f0)) ∧ w'.cell? ⟨gb164, 1, none⟩ = some (.slice A163_1 ((rd_T47 l0_0 x3_1).f1).length c163_1) ∧ w'.cell? ⟨gb164, 2, none⟩ = some (.slice A163_2 ((rd_T47 l0_0 x3_1).f2).length c163_2)) (ds := []) #[false, false, false, false, false, false, false, false, false, false, false, false, false, false, false, false, false, false, false, false, false, false, false, false] (by kernel_rfl) rfl rfl ⟨(blk_cell BK164.out 0).trans rfl, (blk_cell BK164.out 1).trans rfl, (blk_cell BK164.out 2).trans rfl⟩ (fun hHeld => ?_);refine with_tabW changeforgeref1_PatchFault.tab15 changeforgeref1_PatchFault.bits15 (fun HT_ HW_ => ?_);generalize w46.drew = w48 at BK159 BK160 BK164 HB hHeld ⊢;refine pA 0 50 (mb 24 1) HT_ rfl rfl ?_;refine pA 3 53 (mb 24 9) HT_ rfl rfl ?_;refine tA 1 51 (mb 24 11) HT_ HW_ hHeld rfl rfl (by rintro w' ⟨s0, s1, s2⟩;go_simp;with_reducible rfl) ?_;refine pA 2 52 (mb 24 15) HT_ rfl rfl ?_;refine tA 4 54 (mb 24 31) HT_ HW_ hHeld rfl rfl (by rintro w' ⟨s0, s1, s2⟩;go_simp;with_reducible rfl) ?_;refine pA 5 55 (mb 24 63) HT_ rfl rfl ?_;refine pA 6 56 (mb 24 127) HT_ rfl rfl ?_;refine pA 7 57 (mb 24 255) HT_ rfl rfl ?_;refine pA 8 58 (mb 24 511) HT_ rfl rfl ?_;refine pU 9 59 (mb 24 1023) HT_ rfl rfl ?_;refine pU 10 60 (mb 24 2047) HT_ rfl rfl ?_;refine pU 11 61 (mb 24 4095) HT_ rfl rfl ?_;refine pU 12 62 (mb 24 8191) HT_ rfl rfl ?_;refine pU 13 63 (mb 24 16383) HT_ rfl rfl ?_;refine pU 14 64 (mb 24 32767) HT_ rfl rfl ?_;refine pU 15 65 (mb 24 65535) HT_ rfl rfl ?_;refine pU 16 66 (mb 24 131071) HT_ rfl rfl ?_;refine pU 17 67 (mb 24 262143) HT_ rfl rfl ?_;refine pU 18 68 (mb 24 524287) HT_ rfl rfl ?_;refine pU 19 69 (mb 24 1048575) HT_ rfl rfl ?_;refine pU 20 70 (mb 24 2097151) HT_ rfl rfl ?_;refine pU 21 71 (mb 24 4194303) HT_ rfl rfl ?_;refine pU 22 72 (mb 24 8388607) HT_ rfl rfl ?_;refine pA 23 73 (mb 24 16777215) HT_ rfl rfl ?_;refine done_ (done_of HT_.out (by kernel_rfl)) ?_
                          try go_wp2
                          go_meet
                          case rel => exact ⟨_, (true), (by first|rfl|(simp;done)|(simp [*];done)), H', ⟨by have := HK1.out;have := HJ15.out;first|omega|exact Nat.le_refl _⟩, ⟨kK⟩, ⟨kK⟩, ⟨kK⟩, ⟨eB⟩⟩
                        · rw [if_neg c47] at H;have c47b0 : ((wrap64 ((((rd_T47 l0_0 x3_1).f1).length : Int) + (((rd_T47 l0_0 x3_1).f2).length : Int))) == 0) = false := beq_eq_false_iff_ne.mpr c47;have c47b1 : ((wrap64 ((((rd_T47 l0_0 x3_1).f1).length : Int) + (((rd_T47 l0_0 x3_1).f2).length : Int))) != 0) = true := bne_iff_ne.mpr c47
                          (first|rw [c47b0]|(simp only [i64_w, i32_w];rw [c47b0])|skip)
                          by_cases c49 : x3_1 > 0
                          · rw [if_pos c49] at H;have c49b0 : decide (0 < x3_1) = true := decide_eq_true c49;clear c49;obtain ⟨ji50, hji50⟩ : ∃ j_ : Int, (wrap64 (x3_1 - 1)) = j_ := ⟨_, rfl⟩;replace H : (if 0 ≤ (ji50) then (if (ji50) < (l0_0.length : Int) then ((changeforgeref1_End.f ((rd_T47 l0_0 (ji50)).f0) ((rd_T47 l0_0 (ji50)).f1) ((rd_T47 l0_0 (ji50)).f2)).bind fun t174 => (changeforgeref1_PatchFault.j2 kj15 x3_1 (decide (((rd_T47 l0_0 x3_1).f0) ≤ t174)) l0_0 ((rd_T47 l0_0 x3_1).f0) ((rd_T47 l0_0 x3_1).f1) ((rd_T47 l0_0 x3_1).f2))) else (none)) else (none)) = some (r1, r2) := (by first|(rw [hji50] at H;exact H)|(simp only [hji50] at H ⊢;exact H));have hji50w : (IntKind.i64.wrap (x3_1 - 1)) = ji50 := (i64_w _).trans hji50
                            by_cases c51 : 0 ≤ (ji50)
                            · rw [if_pos c51] at H;have c51b0 : decide (0 ≤ (ji50)) = true := decide_eq_true c51;clear c51
                              by_cases c52 : (ji50) < (l0_0.length : Int)
                              · rw [if_pos c52] at H;have c52b0 : decide ((ji50) < (l0_0.length : Int)) = true := decide_eq_true c52;clear c52;replace H := Option.bind_eq_some_iff.mp H;obtain ⟨t174, A530, H⟩ := H;replace H : (changeforgeref1_PatchFault.j2 kj15 x3_1 (decide (((rd_T47 l0_0 x3_1).f0) ≤ t174)) l0_0 ((rd_T47 l0_0 x3_1).f0) ((rd_T47 l0_0 x3_1).f1) ((rd_T47 l0_0 x3_1).f2)) = some (r1, r2) := H;have A53 := Aside0.mk A530;clear A530;have H' := Aside0.mk H;clear H
                                try go_wp2
                                replace BK159 := Aside0.mk (blk_drew BK159.out);replace BK160 := Aside0.mk (blk_drew BK160.out);replace BK164 := Aside0.mk (blk_drew BK164.out);replace HB := Aside0.mk (below_drew1 HB.out);have p173 : 0 ≤ ((ji50) : Int) := dA;have q173 : (ji50) < (l0_0.length : Int) := dA;obtain ⟨ad173, A173_1, c173_1, A173_2, c173_2, e173, hx173_0, hx173_1, hx173_2, hl173_1, hi173_1, hl173_2, hi173_2⟩ := at_T47 HR0_0.out (ji50) p173 q173;have hw173_2 := hx173_2;have hw173_1 := hx173_1;have hw173_0 := hx173_0;obtain rfl : ad163 = ad173 := (by injection e173);replace hx173_0 := (hX HB hx173_0:);replace hx173_1 := (hX HB hx173_1:);replace hx173_2 := (hX HB hx173_2:);have HR173_1 := Aside0.mk hi173_1;have HC173_1 := Aside0.mk hl173_1;clear hi173_1 hl173_1;have HR173_2 := Aside0.mk hi173_2;have HC173_2 := Aside0.mk hl173_2;clear hi173_2 hl173_2;replace p173 := eq_true p173;replace q173 := eq_true q173;refine start_ (n := 24) (S := fun w' => w'.cell? ⟨gb164, 0, none⟩ = some (.int .i64 ((rd_T47 l0_0 x3_1).f0)) ∧ w'.cell? ⟨gb164, 1, none⟩ = some (.slice A163_1 ((rd_T47 l0_0 x3_1).f1).length c163_1) ∧ w'.cell? ⟨gb164, 2, none⟩ = some (.slice A163_2 ((rd_T47 l0_0 x3_1).f2).length c163_2) ∧ w'.cell? ⟨gb159, 0, none⟩ = some (.slice (some ad163) l0_0.length c0_0) ∧ w'.cell? (ad163.add (((ji50)).toNat * 3)) = some (.int .i64 ((rd_T47 l0_0 (ji50)).f0)) ∧ w'.cell? ⟨(ad163.add (((ji50)).toNat * 3)).block, (ad163.add (((ji50)).toNat * 3)).off + 1, none⟩ = some (.slice A173_1 ((rd_T47 l0_0 (ji50)).f1).length c173_1) ∧ w'.cell? ⟨(ad163.add (((ji50)).toNat * 3)).block, (ad163.add (((ji50)).toNat * 3)).off + 2, none⟩ = some (.slice A173_2 ((rd_T47 l0_0 (ji50)).f2).length c173_2)) (ds := []) #[false, false, false, false, false, false, false, false, false, false, false, false, false, false, false, false, false, false, false, false, false, false, false, false] (by kernel_rfl) rfl rfl ⟨(blk_cell BK164.out 0).trans rfl, (blk_cell BK164.out 1).trans rfl, (blk_cell BK164.out 2).trans rfl, (blk_cell BK159.out 0).trans rfl, (hX HB hw173_0:), (hX HB hw173_1:), (hX HB hw173_2:)⟩ (fun hHeld => ?_);refine with_tabW changeforgeref1_PatchFault.tab15 changeforgeref1_PatchFault.bits15 (fun HT_ HW_ => ?_);generalize w46.drew = w54 at BK159 BK160 BK164 HB HR173_1 HR173_2 hx173_0 hx173_1 hx173_2 hHeld ⊢;refine pA 0 50 (mb 24 1) HT_ rfl rfl ?_;refine pA 3 53 (mb 24 9) HT_ rfl rfl ?_;refine tA 1 51 (mb 24 11) HT_ HW_ hHeld rfl rfl (by rintro w' ⟨s0, s1, s2, s3, s4, s5, s6⟩;go_simp;with_reducible rfl) ?_;refine pA 2 52 (mb 24 15) HT_ rfl rfl ?_;refine tA 4 54 (mb 24 31) HT_ HW_ hHeld rfl rfl (by rintro w' ⟨s0, s1, s2, s3, s4, s5, s6⟩;go_simp;with_reducible rfl) ?_;refine pA 5 55 (mb 24 63) HT_ rfl rfl ?_;refine pA 6 56 (mb 24 127) HT_ rfl rfl ?_;refine pA 7 57 (mb 24 255) HT_ rfl rfl ?_;refine pA 8 58 (mb 24 511) HT_ rfl rfl ?_;refine pA 9 59 (mb 24 1023) HT_ rfl rfl ?_;refine pA 10 60 (mb 24 2047) HT_ rfl rfl ?_;refine pA 11 61 (mb 24 4095) HT_ rfl rfl ?_;refine pA 12 62 (mb 24 8191) HT_ rfl rfl ?_;refine pA 14 64 (mb 24 24575) HT_ rfl rfl ?_;refine pA 16 66 (mb 24 90111) HT_ rfl rfl ?_;refine pA 17 67 (mb 24 221183) HT_ rfl rfl ?_;refine tA 13 63 (mb 24 229375) HT_ HW_ hHeld rfl rfl (by rintro w' ⟨s0, s1, s2, s3, s4, s5, s6⟩;go_simp;with_reducible rfl) ?_;refine tA 15 65 (mb 24 262143) HT_ HW_ hHeld rfl rfl (by rintro w' ⟨s0, s1, s2, s3, s4, s5, s6⟩;go_simp;with_reducible rfl) ?_;refine pA 18 68 (mb 24 524287) HT_ rfl rfl ?_;refine tA 19 69 (mb 24 1048575) HT_ HW_ hHeld rfl rfl (by rintro w' ⟨s0, s1, s2, s3, s4, s5, s6⟩;go_simp;with_reducible rfl) ?_;refine one_ (i := 20) (N := some 70) #[true, true, true, true, true, true, true, true, true, true, true, true, true, true, true, true, true, true, true, true, true, false, false, false] rfl rfl (one_of HT_.out (by kernel_rfl)) (by decide) (fun K hK => ?_);refine goes_ Try.func38 (by kernel_rfl) rfl #[.agg #[.int .i64 ((rd_T47 l0_0 (ji50)).f0), .slice A173_1 ((rd_T47 l0_0 (ji50)).f1).length c173_1, .slice A173_2 ((rd_T47 l0_0 (ji50)).f2).length c173_2]] (by rfl) rfl rfl (by (try simp only [List.map_toArray, List.map_cons, List.map_nil]);first|done|(simp only [hji50];rfl)|rfl|(simp only [List.length_drop, List.length_take];rfl)) ?_
                                with_reducible refine (changeforgeref1_End.calls ((rd_T47 l0_0 (ji50)).f0) _ _ ((rd_T47 l0_0 (ji50)).f1) _ _ ((rd_T47 l0_0 (ji50)).f2) t174 _ ?side1 ?side2 ?side3 ?side4 A53.out).mono ?_
                                (case side1 => exact cBe HR173_1);(case side2 => exact HC173_1.out);(case side3 => exact cBe HR173_2);(case side4 => exact HC173_2.out)
                                rintro e w55 ⟨rfl, hb⟩
                                refine ⟨_, rfl, ?_⟩;replace BK159 := lJ BK159 hb;replace BK160 := lJ BK160 hb;replace BK164 := lJ BK164 hb;replace HB := sBe HB hb;(try clear hb);(try clear hb2);(try clear hk);(try clear hi);refine hK.out _ _ ⟨(blk_cell BK164.out 0).trans rfl, (blk_cell BK164.out 1).trans rfl, (blk_cell BK164.out 2).trans rfl, (blk_cell BK159.out 0).trans rfl, (hX HB hw173_0:), (hX HB hw173_1:), (hX HB hw173_2:)⟩ (fun hHeld => ?_);clear hK K;refine norm_ (a' := ?_) ?_ ?_;rotate_left
                                · show Act.put _ (some 70) _ = _
                                  simp only [Act.put, sA, sB, sC, i64_w, i32_w]
                                  rfl
                                refine pA 21 71 (mb 24 4194303) HT_ rfl rfl ?_;refine pA 22 72 (mb 24 8388607) HT_ rfl rfl ?_;refine pA 23 73 (mb 24 16777215) HT_ rfl rfl ?_;refine done_ (done_of HT_.out (by kernel_rfl)) ?_
                                try go_wp2
                                go_meet
                                case rel => exact ⟨_, (decide (((rd_T47 l0_0 x3_1).f0) ≤ t174)), (by first|rfl|(simp;done)|(simp [*];done)), H', ⟨by have := HK1.out;have := HJ15.out;first|omega|exact Nat.le_refl _⟩, ⟨kK⟩, ⟨kK⟩, ⟨kK⟩, ⟨eB⟩⟩
                              · rw [if_neg c52] at H;exact absurd H (by simp)
                            · rw [if_neg c51] at H;exact absurd H (by simp)
                          · rw [if_neg c49] at H;have c49b0 : decide (0 < x3_1) = false := decide_eq_false c49;clear c49;have H' := Aside0.mk H;clear H
                            try go_wp2
                            replace BK159 := Aside0.mk (blk_drew BK159.out);replace BK160 := Aside0.mk (blk_drew BK160.out);replace BK164 := Aside0.mk (blk_drew BK164.out);replace HB := Aside0.mk (below_drew1 HB.out);refine start_ (n := 24) (S := fun w' => w'.cell? ⟨gb164, 0, none⟩ = some (.int .i64 ((rd_T47 l0_0 x3_1).f0)) ∧ w'.cell? ⟨gb164, 1, none⟩ = some (.slice A163_1 ((rd_T47 l0_0 x3_1).f1).length c163_1) ∧ w'.cell? ⟨gb164, 2, none⟩ = some (.slice A163_2 ((rd_T47 l0_0 x3_1).f2).length c163_2)) (ds := []) #[false, false, false, false, false, false, false, false, false, false, false, false, false, false, false, false, false, false, false, false, false, false, false, false] (by kernel_rfl) rfl rfl ⟨(blk_cell BK164.out 0).trans rfl, (blk_cell BK164.out 1).trans rfl, (blk_cell BK164.out 2).trans rfl⟩ (fun hHeld => ?_);refine with_tabW changeforgeref1_PatchFault.tab15 changeforgeref1_PatchFault.bits15 (fun HT_ HW_ => ?_);generalize w46.drew = w56 at BK159 BK160 BK164 HB hHeld ⊢;refine pA 0 50 (mb 24 1) HT_ rfl rfl ?_;refine pA 3 53 (mb 24 9) HT_ rfl rfl ?_;refine tA 1 51 (mb 24 11) HT_ HW_ hHeld rfl rfl (by rintro w' ⟨s0, s1, s2⟩;go_simp;with_reducible rfl) ?_;refine pA 2 52 (mb 24 15) HT_ rfl rfl ?_;refine tA 4 54 (mb 24 31) HT_ HW_ hHeld rfl rfl (by rintro w' ⟨s0, s1, s2⟩;go_simp;with_reducible rfl) ?_;refine pA 5 55 (mb 24 63) HT_ rfl rfl ?_;refine pA 6 56 (mb 24 127) HT_ rfl rfl ?_;refine pA 7 57 (mb 24 255) HT_ rfl rfl ?_;refine pA 8 58 (mb 24 511) HT_ rfl rfl ?_;refine pA 9 59 (mb 24 1023) HT_ rfl rfl ?_;refine pA 10 60 (mb 24 2047) HT_ rfl rfl ?_;refine pA 11 61 (mb 24 4095) HT_ rfl rfl ?_;refine pU 12 62 (mb 24 8191) HT_ rfl rfl ?_;refine pU 13 63 (mb 24 16383) HT_ rfl rfl ?_;refine pU 14 64 (mb 24 32767) HT_ rfl rfl ?_;refine pU 15 65 (mb 24 65535) HT_ rfl rfl ?_;refine pU 16 66 (mb 24 131071) HT_ rfl rfl ?_;refine pU 17 67 (mb 24 262143) HT_ rfl rfl ?_;refine pU 18 68 (mb 24 524287) HT_ rfl rfl ?_;refine pU 19 69 (mb 24 1048575) HT_ rfl rfl ?_;refine pU 20 70 (mb 24 2097151) HT_ rfl rfl ?_;refine pU 21 71 (mb 24 4194303) HT_ rfl rfl ?_;refine pA 22 72 (mb 24 8388607) HT_ rfl rfl ?_;refine pA 23 73 (mb 24 16777215) HT_ rfl rfl ?_;refine done_ (done_of HT_.out (by kernel_rfl)) ?_
                            try go_wp2
                            go_meet
                            case rel => exact ⟨_, (false), (by first|rfl|(simp;done)|(simp [*];done)), H', ⟨by have := HK1.out;have := HJ15.out;first|omega|exact Nat.le_refl _⟩, ⟨kK⟩, ⟨kK⟩, ⟨kK⟩, ⟨eB⟩⟩
                      case rest =>
                        clear HC40
                        try clear c1
                        try clear p1
                        try clear q1
                        try clear hx1
                        try clear p2
                        try clear c3
                        try clear c4
                        try clear c5
                        try clear p6
                        try clear c16
                        try clear c17
                        try clear p17
                        try clear q17
                        try clear hx17
                        try clear c38
                        try clear c47
                        try clear c47b0
                        try clear c47b1
                        try clear c49
                        try clear c49b0
                        try clear c51
                        try clear c51b0
                        try clear c52
                        try clear c52b0
                        try clear hx173_0
                        try clear hx173_1
                        try clear hx173_2
                        try clear p173
                        try clear q173
                        obtain ⟨kq, x73_39, rfl, HA, HJ39, BK159, BK160, BK164, HB⟩ := hcut
                        cases kq with
                        | zero => exact absurd HA.out (by simp [changeforgeref1_PatchFault.j2])
                        | succ kj39 =>
                          have H := HA.out;clear HA;simp only [changeforgeref1_PatchFault.j2] at H
                          by_cases c57 : x73_39 = true
                          · subst c57;have H1 : ((changeforgeref1_At.f 5 x3_1).bind fun bt175 => (some (bt175.1, bt175.2))) = some (r1, r2) := (by rw [if_pos rfl] at H;exact H);clear H;have H := H1;clear H1;replace H := Option.bind_eq_some_iff.mp H;obtain ⟨⟨t175, t176⟩, A580, H⟩ := H;replace H : (some (t175, t176)) = some (r1, r2) := H;have A58 := Aside0.mk A580;clear A580;simp only [Option.some.injEq, Prod.mk.injEq] at H;obtain ⟨rfl, rfl⟩ := H
                            go_wp2_with (first|((with_reducible refine gate_callee (f := 36) rfl ?_);refine goesL_ (some 75) rfl rfl Try.func36 (by kernel_rfl) rfl #[.int .i64 5, .int .i64 x3_1] rfl mA ?_;(with_reducible refine (changeforgeref1_At.calls 5 x3_1 t175 t176 _ A58.out).mono ?_);rintro e w59 ⟨rfl, hb⟩;refine ⟨_, rfl, ?_⟩;replace BK159 := lJ BK159 hb;replace BK160 := lJ BK160 hb;replace BK164 := lJ BK164 hb;replace HB := sBe HB hb;(try clear hb);(try clear hb2);(try clear hk);(try clear hi);have hnb60 := NB160_159.out;have hnc60 := NB159_160.out;have hnb61 := NB160_164.out;have hnc61 := NB164_160.out;have hcz62_0 := hC BK160 0 (.int .i64 x161000_1);have hcz62_1 := hC BK160 1 (.int .i64 x161001_1);have hfz62_0 := blk_frozen BK160.out 0;have hfz62_1 := blk_frozen BK160.out 1))
                            refine bodyPost_ret (results_cell_row rfl _ _ gb160 27 #[.int .i64 t175, .int .i64 t176] (0, 0) _ rfl kK Try.underlying27 rfl (by kernel_rfl)) rfl ?_;exact ⟨rW, eB⟩
                          · replace c57 := Bool.eq_false_iff.mpr c57;subst c57;have H1 : ((changeforgeref1_End.f ((rd_T47 l0_0 x3_1).f0) ((rd_T47 l0_0 x3_1).f1) ((rd_T47 l0_0 x3_1).f2)).bind fun t177 => (if t177 > 120 then ((changeforgeref1_At.f 3 x3_1).bind fun bt178 => (some (bt178.1, bt178.2))) else (changeforgeref1_PatchFault.l0 kj39 (wrap64 (x3_1 + 1)) l0_0))) = some (r1, r2) := (by rw [if_neg (show ¬ (false = true) by decide)] at H;exact H);clear H;have H := H1;clear H1;replace H := Option.bind_eq_some_iff.mp H;obtain ⟨t177, A630, H⟩ := H;replace H : (if t177 > 120 then ((changeforgeref1_At.f 3 x3_1).bind fun bt178 => (some (bt178.1, bt178.2))) else (changeforgeref1_PatchFault.l0 kj39 (wrap64 (x3_1 + 1)) l0_0)) = some (r1, r2) := H;have A63 := Aside0.mk A630;clear A630
                            by_cases c64 : t177 > 120
                            · rw [if_pos c64] at H;have c64b0 : decide (120 < t177) = true := decide_eq_true c64;clear c64;replace H := Option.bind_eq_some_iff.mp H;obtain ⟨⟨t178, t179⟩, A650, H⟩ := H;replace H : (some (t178, t179)) = some (r1, r2) := H;have A65 := Aside0.mk A650;clear A650;simp only [Option.some.injEq, Prod.mk.injEq] at H;obtain ⟨rfl, rfl⟩ := H;have hnb66 := NB164_159.out;have hnc66 := NB159_164.out;have hnb67 := NB164_160.out;have hnc67 := NB160_164.out;have hcz68_0 : wc.cell? ⟨gb164, 0, none⟩ = some (.int .i64 ((rd_T47 l0_0 x3_1).f0)) := (blk_cell BK164.out 0).trans rfl;have hcz68_1 : wc.cell? ⟨gb164, 1, none⟩ = some (.slice A163_1 ((rd_T47 l0_0 x3_1).f1).length c163_1) := (blk_cell BK164.out 1).trans rfl;have hcz68_2 : wc.cell? ⟨gb164, 2, none⟩ = some (.slice A163_2 ((rd_T47 l0_0 x3_1).f2).length c163_2) := (blk_cell BK164.out 2).trans rfl;have hfz68_0 := blk_frozen BK164.out 0;have hfz68_1 := blk_frozen BK164.out 1;have hfz68_2 := blk_frozen BK164.out 2
                              go_wp2_with (first|((with_reducible refine gate_callee (f := 38) rfl ?_);refine goesL_ (some 77) rfl rfl Try.func38 (by kernel_rfl) rfl #[.agg #[.int .i64 ((rd_T47 l0_0 x3_1).f0), .slice A163_1 ((rd_T47 l0_0 x3_1).f1).length c163_1, .slice A163_2 ((rd_T47 l0_0 x3_1).f2).length c163_2]] rfl mA ?_;(with_reducible refine (changeforgeref1_End.calls ((rd_T47 l0_0 x3_1).f0) _ _ ((rd_T47 l0_0 x3_1).f1) _ _ ((rd_T47 l0_0 x3_1).f2) t177 _ ?side1 ?side2 ?side3 ?side4 A63.out).mono ?_);(case side1 => exact cBe HR163_1);(case side2 => exact HC163_1.out);(case side3 => exact cBe HR163_2);(case side4 => exact HC163_2.out);rintro e w69 ⟨rfl, hb⟩;refine ⟨_, rfl, ?_⟩;replace BK159 := lJ BK159 hb;replace BK160 := lJ BK160 hb;replace BK164 := lJ BK164 hb;replace HB := sBe HB hb;(try clear hb);(try clear hb2);(try clear hk);(try clear hi))|((with_reducible refine gate_callee (f := 36) rfl ?_);refine goesL_ (some 80) rfl rfl Try.func36 (by kernel_rfl) rfl #[.int .i64 3, .int .i64 x3_1] rfl mA ?_;(with_reducible refine (changeforgeref1_At.calls 3 x3_1 t178 t179 _ A65.out).mono ?_);rintro e w70 ⟨rfl, hb⟩;refine ⟨_, rfl, ?_⟩;replace BK159 := lJ BK159 hb;replace BK160 := lJ BK160 hb;replace BK164 := lJ BK164 hb;replace HB := sBe HB hb;(try clear hb);(try clear hb2);(try clear hk);(try clear hi);have hnb71 := NB160_159.out;have hnc71 := NB159_160.out;have hcz72_0 := hC BK160 0 (.int .i64 x161000_1);have hcz72_1 := hC BK160 1 (.int .i64 x161001_1);have hfz72_0 := blk_frozen BK160.out 0;have hfz72_1 := blk_frozen BK160.out 1))
                              refine bodyPost_ret (results_cell_row rfl _ _ gb160 27 #[.int .i64 t178, .int .i64 t179] (0, 0) _ rfl kK Try.underlying27 rfl (by kernel_rfl)) rfl ?_;exact ⟨rW, eB⟩
                            · rw [if_neg c64] at H;have c64b0 : decide (120 < t177) = false := decide_eq_false c64;clear c64;have H' := Aside0.mk H;clear H;have hnb73 := NB164_159.out;have hnc73 := NB159_164.out;have hnb74 := NB164_160.out;have hnc74 := NB160_164.out;have hcz75_0 : wc.cell? ⟨gb164, 0, none⟩ = some (.int .i64 ((rd_T47 l0_0 x3_1).f0)) := (blk_cell BK164.out 0).trans rfl;have hcz75_1 : wc.cell? ⟨gb164, 1, none⟩ = some (.slice A163_1 ((rd_T47 l0_0 x3_1).f1).length c163_1) := (blk_cell BK164.out 1).trans rfl;have hcz75_2 : wc.cell? ⟨gb164, 2, none⟩ = some (.slice A163_2 ((rd_T47 l0_0 x3_1).f2).length c163_2) := (blk_cell BK164.out 2).trans rfl;have hfz75_0 := blk_frozen BK164.out 0;have hfz75_1 := blk_frozen BK164.out 1;have hfz75_2 := blk_frozen BK164.out 2
                              go_wp2_with (first|((with_reducible refine gate_callee (f := 38) rfl ?_);refine goesL_ (some 77) rfl rfl Try.func38 (by kernel_rfl) rfl #[.agg #[.int .i64 ((rd_T47 l0_0 x3_1).f0), .slice A163_1 ((rd_T47 l0_0 x3_1).f1).length c163_1, .slice A163_2 ((rd_T47 l0_0 x3_1).f2).length c163_2]] rfl mA ?_;(with_reducible refine (changeforgeref1_End.calls ((rd_T47 l0_0 x3_1).f0) _ _ ((rd_T47 l0_0 x3_1).f1) _ _ ((rd_T47 l0_0 x3_1).f2) t177 _ ?side1 ?side2 ?side3 ?side4 A63.out).mono ?_);(case side1 => exact cBe HR163_1);(case side2 => exact HC163_1.out);(case side3 => exact cBe HR163_2);(case side4 => exact HC163_2.out);rintro e w76 ⟨rfl, hb⟩;refine ⟨_, rfl, ?_⟩;replace BK159 := lJ BK159 hb;replace BK160 := lJ BK160 hb;replace BK164 := lJ BK164 hb;replace HB := sBe HB hb;(try clear hb);(try clear hb2);(try clear hk);(try clear hi)))
                              go_roundg kj39
                              case measure => have := HK1.out;have := HJ15.out;have := HJ39.out;omega
                              case rel => exact ⟨(wrap64 (x3_1 + 1)), (x161000_1), (x161001_1), (by first|rfl|(simp;done)|(simp [*];done)), H', ⟨by have := HK1.out;have := HJ15.out;have := HJ39.out;omega⟩, ⟨kK⟩, ⟨kK⟩, ⟨eB⟩⟩
                    · rw [if_neg c39] at H;have c39b0 : (t170 == 0) = false := beq_eq_false_iff_ne.mpr c39;have c39b1 : (t170 != 0) = true := bne_iff_ne.mpr c39;replace H := Option.bind_eq_some_iff.mp H;obtain ⟨⟨t171, t172⟩, A770, H⟩ := H;replace H : (some (t171, t172)) = some (r1, r2) := H;have A77 := Aside0.mk A770;clear A770;simp only [Option.some.injEq, Prod.mk.injEq] at H;obtain ⟨rfl, rfl⟩ := H;have hnb78 := NB164_159.out;have hnc78 := NB159_164.out;have hnb79 := NB164_160.out;have hnc79 := NB160_164.out;have hcz80_0 : wc.cell? ⟨gb164, 0, none⟩ = some (.int .i64 ((rd_T47 l0_0 x3_1).f0)) := (blk_cell BK164.out 0).trans rfl;have hcz80_1 : wc.cell? ⟨gb164, 1, none⟩ = some (.slice A163_1 ((rd_T47 l0_0 x3_1).f1).length c163_1) := (blk_cell BK164.out 1).trans rfl;have hcz80_2 : wc.cell? ⟨gb164, 2, none⟩ = some (.slice A163_2 ((rd_T47 l0_0 x3_1).f2).length c163_2) := (blk_cell BK164.out 2).trans rfl;have hfz80_0 := blk_frozen BK164.out 0;have hfz80_1 := blk_frozen BK164.out 1;have hfz80_2 := blk_frozen BK164.out 2
                      go_wp2_with (first|((with_reducible refine gate_callee (f := 35) rfl ?_);refine goesL_ (some 36) rfl rfl Try.func35 (by kernel_rfl) rfl #[.slice A163_1 ((rd_T47 l0_0 x3_1).f1).length c163_1] rfl mA ?_;(with_reducible refine (changeforgeref1_LinesCode.calls _ _ ((rd_T47 l0_0 x3_1).f1) t167 _ ?side1 ?side2 A36.out).mono ?_);(case side1 => exact cBe HR163_1);(case side2 => exact HC163_1.out);rintro e w81 ⟨rfl, hb⟩;refine ⟨_, rfl, ?_⟩;replace BK159 := lJ BK159 hb;replace BK160 := lJ BK160 hb;replace BK164 := lJ BK164 hb;replace HB := sBe HB hb;(try clear hb);(try clear hb2);(try clear hk);(try clear hi);have hcz82_0 := hC BK164 0 (.int .i64 ((rd_T47 l0_0 x3_1).f0));have hcz82_1 := hC BK164 1 (.slice A163_1 ((rd_T47 l0_0 x3_1).f1).length c163_1);have hcz82_2 := hC BK164 2 (.slice A163_2 ((rd_T47 l0_0 x3_1).f2).length c163_2);have hfz82_0 := blk_frozen BK164.out 0;have hfz82_1 := blk_frozen BK164.out 1;have hfz82_2 := blk_frozen BK164.out 2)|((with_reducible refine gate_callee (f := 35) rfl ?_);refine goesL_ (some 44) rfl rfl Try.func35 (by kernel_rfl) rfl #[.slice A163_2 ((rd_T47 l0_0 x3_1).f2).length c163_2] rfl mA ?_;(with_reducible refine (changeforgeref1_LinesCode.calls _ _ ((rd_T47 l0_0 x3_1).f2) t170 _ ?side1 ?side2 A38.out).mono ?_);(case side1 => exact cBe HR163_2);(case side2 => exact HC163_2.out);rintro e w83 ⟨rfl, hb⟩;refine ⟨_, rfl, ?_⟩;replace BK159 := lJ BK159 hb;replace BK160 := lJ BK160 hb;replace BK164 := lJ BK164 hb;replace HB := sBe HB hb;(try clear hb);(try clear hb2);(try clear hk);(try clear hi))|((with_reducible refine gate_callee (f := 36) rfl ?_);refine goesL_ (some 49) rfl rfl Try.func36 (by kernel_rfl) rfl #[.int .i64 t170, .int .i64 x3_1] rfl mA ?_;(with_reducible refine (changeforgeref1_At.calls t170 x3_1 t171 t172 _ A77.out).mono ?_);rintro e w84 ⟨rfl, hb⟩;refine ⟨_, rfl, ?_⟩;replace BK159 := lJ BK159 hb;replace BK160 := lJ BK160 hb;replace BK164 := lJ BK164 hb;replace HB := sBe HB hb;(try clear hb);(try clear hb2);(try clear hk);(try clear hi);have hnb85 := NB160_159.out;have hnc85 := NB159_160.out;have hcz86_0 := hC BK160 0 (.int .i64 x161000_1);have hcz86_1 := hC BK160 1 (.int .i64 x161001_1);have hfz86_0 := blk_frozen BK160.out 0;have hfz86_1 := blk_frozen BK160.out 1))
                      refine bodyPost_ret (results_cell_row rfl _ _ gb160 27 #[.int .i64 t171, .int .i64 t172] (0, 0) _ rfl kK Try.underlying27 rfl (by kernel_rfl)) rfl ?_;exact ⟨rW, eB⟩
                  · rw [if_neg c37] at H;have c37b0 : (t167 == 0) = false := beq_eq_false_iff_ne.mpr c37;have c37b1 : (t167 != 0) = true := bne_iff_ne.mpr c37;replace H := Option.bind_eq_some_iff.mp H;obtain ⟨⟨t168, t169⟩, A870, H⟩ := H;replace H : (some (t168, t169)) = some (r1, r2) := H;have A87 := Aside0.mk A870;clear A870;simp only [Option.some.injEq, Prod.mk.injEq] at H;obtain ⟨rfl, rfl⟩ := H;have hnb88 := NB164_159.out;have hnc88 := NB159_164.out;have hnb89 := NB164_160.out;have hnc89 := NB160_164.out;have hcz90_0 : wc.cell? ⟨gb164, 0, none⟩ = some (.int .i64 ((rd_T47 l0_0 x3_1).f0)) := (blk_cell BK164.out 0).trans rfl;have hcz90_1 : wc.cell? ⟨gb164, 1, none⟩ = some (.slice A163_1 ((rd_T47 l0_0 x3_1).f1).length c163_1) := (blk_cell BK164.out 1).trans rfl;have hcz90_2 : wc.cell? ⟨gb164, 2, none⟩ = some (.slice A163_2 ((rd_T47 l0_0 x3_1).f2).length c163_2) := (blk_cell BK164.out 2).trans rfl;have hfz90_0 := blk_frozen BK164.out 0;have hfz90_1 := blk_frozen BK164.out 1;have hfz90_2 := blk_frozen BK164.out 2
                    go_wp2_with (first|((with_reducible refine gate_callee (f := 35) rfl ?_);refine goesL_ (some 36) rfl rfl Try.func35 (by kernel_rfl) rfl #[.slice A163_1 ((rd_T47 l0_0 x3_1).f1).length c163_1] rfl mA ?_;(with_reducible refine (changeforgeref1_LinesCode.calls _ _ ((rd_T47 l0_0 x3_1).f1) t167 _ ?side1 ?side2 A36.out).mono ?_);(case side1 => exact cBe HR163_1);(case side2 => exact HC163_1.out);rintro e w91 ⟨rfl, hb⟩;refine ⟨_, rfl, ?_⟩;replace BK159 := lJ BK159 hb;replace BK160 := lJ BK160 hb;replace BK164 := lJ BK164 hb;replace HB := sBe HB hb;(try clear hb);(try clear hb2);(try clear hk);(try clear hi))|((with_reducible refine gate_callee (f := 36) rfl ?_);refine goesL_ (some 41) rfl rfl Try.func36 (by kernel_rfl) rfl #[.int .i64 t167, .int .i64 x3_1] rfl mA ?_;(with_reducible refine (changeforgeref1_At.calls t167 x3_1 t168 t169 _ A87.out).mono ?_);rintro e w92 ⟨rfl, hb⟩;refine ⟨_, rfl, ?_⟩;replace BK159 := lJ BK159 hb;replace BK160 := lJ BK160 hb;replace BK164 := lJ BK164 hb;replace HB := sBe HB hb;(try clear hb);(try clear hb2);(try clear hk);(try clear hi);have hnb93 := NB160_159.out;have hnc93 := NB159_160.out;have hcz94_0 := hC BK160 0 (.int .i64 x161000_1);have hcz94_1 := hC BK160 1 (.int .i64 x161001_1);have hfz94_0 := blk_frozen BK160.out 0;have hfz94_1 := blk_frozen BK160.out 1))
                    refine bodyPost_ret (results_cell_row rfl _ _ gb160 27 #[.int .i64 t168, .int .i64 t169] (0, 0) _ rfl kK Try.underlying27 rfl (by kernel_rfl)) rfl ?_;exact ⟨rW, eB⟩
          · rw [if_neg c15] at H;exact absurd H (by simp)
        · rw [if_neg c14] at H;have c14b0 : decide (x3_1 < (l0_0.length : Int)) = false := decide_eq_false c14;clear c14;simp only [Option.some.injEq, Prod.mk.injEq] at H;obtain ⟨rfl, rfl⟩ := H;have hnb95 := NB159_160.out;have hnc95 := NB160_159.out;have hcz96_0 : wr.cell? ⟨gb159, 0, none⟩ = some (.slice A0_0 l0_0.length c0_0) := (blk_cell BK159.out 0).trans rfl;have hfz96_0 := blk_frozen BK159.out 0;have hcz97_0 : wr.cell? ⟨gb160, 0, none⟩ = some (.int .i64 x161000_1) := (blk_cell BK160.out 0).trans rfl;have hcz97_1 : wr.cell? ⟨gb160, 1, none⟩ = some (.int .i64 x161001_1) := (blk_cell BK160.out 1).trans rfl;have hfz97_0 := blk_frozen BK160.out 0;have hfz97_1 := blk_frozen BK160.out 1
          go_wp2
          refine bodyPost_ret (results_cell_row rfl _ _ gb160 27 #[.int .i64 0, .int .i64 0] (0, 0) _ rfl kK Try.underlying27 rfl (by kernel_rfl)) rfl ?_;exact ⟨rW, eB⟩

/-! ### changeforgeref1_Equal: function 59 -/
def changeforgeref1_Equal.l0 : Nat → List ByteArray → List ByteArray → Int → Option (Bool)
  | 0, _, _, _ => none
  | k + 1, x0, x1, x5 => if x5 < (x0.length : Int) then (if 0 ≤ x5 then (if x5 < (x1.length : Int) then (if (rdOf ByteArray.empty x0 x5).toList = (rdOf ByteArray.empty x1 x5).toList then (changeforgeref1_Equal.l0 k x0 x1 (wrap64 (x5 + 1))) else (some false)) else (none)) else (none)) else (some true)
def changeforgeref1_Equal.f (k : Nat) (l0 : List ByteArray) (l1 : List ByteArray) : Option (Bool) := if (l0.length : Int) = (l1.length : Int) then (changeforgeref1_Equal.l0 k l0 l1 0) else (some false)
theorem changeforgeref1_Equal.mono_l : ∀ k, (∀ y0 y1 y2, LeO (changeforgeref1_Equal.l0 k y0 y1 y2) (changeforgeref1_Equal.l0 (k + 1) y0 y1 y2))
  | 0 => fun _ _ _ r h => by simp [changeforgeref1_Equal.l0] at h
  | k + 1 => by
    have ih0 := changeforgeref1_Equal.mono_l k
    · intro y0 y1 y2
      unfold changeforgeref1_Equal.l0
      repeat' first
      | (with_reducible exact ih0 _ _ _)
      | (with_reducible exact LeO.refl _)
      | (with_reducible exact LeO.none _)
      | (with_reducible refine LeO.ite ?_ ?_)
      | (with_reducible refine LeO.bind ?_ (fun _ => ?_))
      | exact ih0 _ _ _
      | exact LeO.none _
      | refine LeO.ite ?_ ?_
      | refine LeO.bind ?_ (fun _ => ?_)
theorem changeforgeref1_Equal.mono : ∀ a0 a1 k, LeO (changeforgeref1_Equal.f k a0 a1) (changeforgeref1_Equal.f (k + 1) a0 a1) := by
  intro a0 a1 k
  have ih0 := changeforgeref1_Equal.mono_l k
  unfold changeforgeref1_Equal.f
  repeat' first
      | (with_reducible exact ih0 _ _ _)
      | (with_reducible exact LeO.refl _)
      | (with_reducible exact LeO.none _)
      | (with_reducible refine LeO.ite ?_ ?_)
      | (with_reducible refine LeO.bind ?_ (fun _ => ?_))
      | exact ih0 _ _ _
      | exact LeO.none _
      | refine LeO.ite ?_ ?_
      | refine LeO.bind ?_ (fun _ => ?_)
set_option maxHeartbeats 8000000 in
set_option maxRecDepth 100000 in
theorem changeforgeref1_Equal.calls (k : Nat) (A0 : Option Addr) (c0 : Nat) (l0 : List ByteArray) (A1 : Option Addr) (c1 : Nat) (l1 : List ByteArray) (r : Bool) (w : World) (hr0 : Kd.C Kd.string w A0 l0.length l0) (hc0 : l0.length ≤ c0) (hr1 : Kd.C Kd.string w A1 l1.length l1) (hc1 : l1.length ≤ c1) (h : changeforgeref1_Equal.f k l0 l1 = some r) :
    Calls Try.prog 59 #[.slice A0 l0.length c0, .slice A1 l1.length c1] w fun e w' => e = .returned (.bool r) ∧ Drawn0 w w' := by
  have HR0 := Aside0.mk hr0;have HC0 := Aside0.mk hc0;clear hr0 hc0;have HR1 := Aside0.mk hr1;have HC1 := Aside0.mk hc1;clear hr1 hc1;have H : (if (l0.length : Int) = (l1.length : Int) then (changeforgeref1_Equal.l0 k l0 l1 0) else (some false)) = some r := h;clear h
  by_cases c3 : (l0.length : Int) = (l1.length : Int)
  · rw [if_pos c3] at H;have c3b0 : ((l0.length : Int) == (l1.length : Int)) = true := beq_iff_eq.mpr c3;have c3b1 : ((l0.length : Int) != (l1.length : Int)) = false := bne_eq_false_iff_eq.mpr c3;have c3b2 : (l0.length == l1.length) = true := (by first|simpa using c3|(simp at c3 ⊢;omega));clear c3;have H' := Aside0.mk H;clear H
    go_enter Try.func59, Try.ntmps59
    go_wp2
    repeat (go_quiet (fail);try go_wp2)
    go_loopg [5] k (fun kq v5 w' => ∃ (x5_1 : Int), v5 = .int .i64 x5_1 ∧ Aside0 (changeforgeref1_Equal.l0 kq l0 l1 x5_1 = some r) ∧ Aside0 (kq ≤ k) ∧ Drawn0 w w')
    case atStart => exact ⟨(0), (by first|rfl|(simp;done)|(simp [*];done)), H', ⟨Nat.le_refl _⟩, by repeat (first|exact Drawn0.refl _|apply Drawn0.step)⟩
    case round =>
      clear H'
      try clear c1
      try clear p2
      try clear c3
      try clear c3b0
      try clear c3b1
      try clear c3b2
      obtain ⟨x5_1, rfl, HA, HK1, ⟨m1, rfl⟩⟩ := hrel
      cases gk with
      | zero => exact absurd HA.out (by simp [changeforgeref1_Equal.l0])
      | succ k1 =>
        have H := HA.out;clear HA;simp only [changeforgeref1_Equal.l0] at H
        by_cases c4 : x5_1 < (l0.length : Int)
        · rw [if_pos c4] at H;have c4b0 : decide (x5_1 < (l0.length : Int)) = true := decide_eq_true c4;clear c4
          by_cases c5 : 0 ≤ x5_1
          · rw [if_pos c5] at H;have c5b0 : decide (0 ≤ x5_1) = true := decide_eq_true c5;clear c5
            by_cases c6 : x5_1 < (l1.length : Int)
            · rw [if_pos c6] at H;have c6b0 : decide (x5_1 < (l1.length : Int)) = true := decide_eq_true c6;clear c6
              by_cases c7 : (rdOf ByteArray.empty l0 x5_1).toList = (rdOf ByteArray.empty l1 x5_1).toList
              · rw [if_pos c7] at H;have c7b0 : ((rdOf ByteArray.empty l0 x5_1).toList == (rdOf ByteArray.empty l1 x5_1).toList) = true := beq_iff_eq.mpr c7;have c7b1 : ((rdOf ByteArray.empty l0 x5_1).toList != (rdOf ByteArray.empty l1 x5_1).toList) = false := bne_eq_false_iff_eq.mpr c7;clear c7;have H' := Aside0.mk H;clear H;have p180 : 0 ≤ (x5_1 : Int) := dA;have q180 : x5_1 < (l0.length : Int) := dA;obtain ⟨ad180, e180, hx180_0⟩ := Kd.at_string HR0.out x5_1 p180 q180
                cases e180
                replace p180 := eq_true p180;replace q180 := eq_true q180;have p181 : 0 ≤ (x5_1 : Int) := dA;have q181 : x5_1 < (l1.length : Int) := dA;obtain ⟨ad181, e181, hx181_0⟩ := Kd.at_string HR1.out x5_1 p181 q181
                cases e181
                replace p181 := eq_true p181;replace q181 := eq_true q181
                go_wp2
                repeat (go_quiet (fail);try go_wp2)
                go_roundg k1
                case measure => have := HK1.out;omega
                case rel => exact ⟨(wrap64 (x5_1 + 1)), (by first|rfl|(simp;done)|(simp [*];done)), H', ⟨by have := HK1.out;omega⟩, by repeat (first|exact Drawn0.refl _|apply Drawn0.step)⟩
              · rw [if_neg c7] at H;have c7b0 : ((rdOf ByteArray.empty l0 x5_1).toList == (rdOf ByteArray.empty l1 x5_1).toList) = false := beq_eq_false_iff_ne.mpr c7;have c7b1 : ((rdOf ByteArray.empty l0 x5_1).toList != (rdOf ByteArray.empty l1 x5_1).toList) = true := bne_iff_ne.mpr c7;obtain rfl := Option.some.inj H;have p180 : 0 ≤ (x5_1 : Int) := dA;have q180 : x5_1 < (l0.length : Int) := dA;obtain ⟨ad180, e180, hx180_0⟩ := Kd.at_string HR0.out x5_1 p180 q180
                cases e180
                replace p180 := eq_true p180;replace q180 := eq_true q180;have p181 : 0 ≤ (x5_1 : Int) := dA;have q181 : x5_1 < (l1.length : Int) := dA;obtain ⟨ad181, e181, hx181_0⟩ := Kd.at_string HR1.out x5_1 p181 q181
                cases e181
                replace p181 := eq_true p181;replace q181 := eq_true q181
                go_wp2
                repeat (go_quiet (fail);try go_wp2)
                go_ret
                exact ⟨by first|rfl|(simp;done)|(simp [*];done), by repeat (first|exact Drawn0.refl _|apply Drawn0.step)⟩
            · rw [if_neg c6] at H;exact absurd H (by simp)
          · rw [if_neg c5] at H;exact absurd H (by simp)
        · rw [if_neg c4] at H;have c4b0 : decide (x5_1 < (l0.length : Int)) = false := decide_eq_false c4;clear c4;obtain rfl := Option.some.inj H
          go_wp2
          repeat (go_quiet (fail);try go_wp2)
          go_ret
          exact ⟨by first|rfl|(simp;done)|(simp [*];done), by repeat (first|exact Drawn0.refl _|apply Drawn0.step)⟩
  · rw [if_neg c3] at H;have c3b0 : ((l0.length : Int) == (l1.length : Int)) = false := beq_eq_false_iff_ne.mpr c3;have c3b1 : ((l0.length : Int) != (l1.length : Int)) = true := bne_iff_ne.mpr c3;have c3b2 : (l0.length == l1.length) = false := (by first|simpa using c3|(simp at c3 ⊢;omega));obtain rfl := Option.some.inj H
    go_enter Try.func59, Try.ntmps59
    go_wp2
    repeat (go_quiet (fail);try go_wp2)
    go_ret
    exact ⟨by first|rfl|(simp;done)|(simp [*];done), by repeat (first|exact Drawn0.refl _|apply Drawn0.step)⟩

/-! ### changeforgeref1_has: function 37 -/
def changeforgeref1_has.f (k : Nat) (l0 : List ByteArray) (a1 : Int) (l2 : List ByteArray) : Option (Bool) := if a1 < 0 then (some false) else (if (wrap64 (a1 + (l2.length : Int))) > (l0.length : Int) then (some false) else (if 0 ≤ a1 then (if a1 ≤ (wrap64 (a1 + (l2.length : Int))) then (if (wrap64 (a1 + (l2.length : Int))) ≤ (l0.length : Int) then ((changeforgeref1_Equal.f k ((l0.take ((wrap64 (a1 + (l2.length : Int))) : Int).toNat).drop (a1 : Int).toNat) l2).bind fun t183 => (some t183)) else (none)) else (none)) else (none)))
theorem changeforgeref1_has.mono : ∀ a0 a1 a2 k, LeO (changeforgeref1_has.f k a0 a1 a2) (changeforgeref1_has.f (k + 1) a0 a1 a2) := by
  intro a0 a1 a2 k
  unfold changeforgeref1_has.f
  repeat' first
      | (with_reducible exact changeforgeref1_Equal.mono _ _ _)
      | (with_reducible exact LeO.refl _)
      | (with_reducible exact LeO.none _)
      | (with_reducible refine LeO.ite ?_ ?_)
      | (with_reducible refine LeO.bind ?_ (fun _ => ?_))
      | exact changeforgeref1_Equal.mono _ _ _
      | exact LeO.none _
      | refine LeO.ite ?_ ?_
      | refine LeO.bind ?_ (fun _ => ?_)
set_option maxHeartbeats 8000000 in
set_option maxRecDepth 100000 in
theorem changeforgeref1_has.calls (k : Nat) (A0 : Option Addr) (c0 : Nat) (l0 : List ByteArray) (a1 : Int) (A2 : Option Addr) (c2 : Nat) (l2 : List ByteArray) (r : Bool) (w : World) (hr0 : Kd.C Kd.string w A0 l0.length l0) (hc0 : l0.length ≤ c0) (hr2 : Kd.C Kd.string w A2 l2.length l2) (hc2 : l2.length ≤ c2) (h : changeforgeref1_has.f k l0 a1 l2 = some r) :
    Calls Try.prog 37 #[.slice A0 l0.length c0, .int .i64 a1, .slice A2 l2.length c2] w fun e w' => e = .returned (.bool r) ∧ Drawn0 w w' := by
  have HR0 := Aside0.mk hr0;have HC0 := Aside0.mk hc0;clear hr0 hc0;have HR2 := Aside0.mk hr2;have HC2 := Aside0.mk hc2;clear hr2 hc2;have H : (if a1 < 0 then (some false) else (if (wrap64 (a1 + (l2.length : Int))) > (l0.length : Int) then (some false) else (if 0 ≤ a1 then (if a1 ≤ (wrap64 (a1 + (l2.length : Int))) then (if (wrap64 (a1 + (l2.length : Int))) ≤ (l0.length : Int) then ((changeforgeref1_Equal.f k ((l0.take ((wrap64 (a1 + (l2.length : Int))) : Int).toNat).drop (a1 : Int).toNat) l2).bind fun t183 => (some t183)) else (none)) else (none)) else (none)))) = some r := h;clear h
  by_cases c4 : a1 < 0
  · rw [if_pos c4] at H;have c4b0 : decide (a1 < 0) = true := decide_eq_true c4;clear c4;obtain rfl := Option.some.inj H
    go_enter Try.func37, Try.ntmps37
    go_wp2
    go_ret
    exact ⟨by first|rfl|(simp;done)|(simp [*];done), by repeat (first|exact Drawn0.refl _|apply Drawn0.step)⟩
  · rw [if_neg c4] at H;have c4b0 : decide (a1 < 0) = false := decide_eq_false c4;clear c4
    by_cases c5 : (wrap64 (a1 + (l2.length : Int))) > (l0.length : Int)
    · rw [if_pos c5] at H;have c5b0 : decide ((l0.length : Int) < (wrap64 (a1 + (l2.length : Int)))) = true := decide_eq_true c5;clear c5;obtain rfl := Option.some.inj H
      go_enter Try.func37, Try.ntmps37
      go_wp2
      go_ret
      exact ⟨by first|rfl|(simp;done)|(simp [*];done), by repeat (first|exact Drawn0.refl _|apply Drawn0.step)⟩
    · rw [if_neg c5] at H;have c5b0 : decide ((l0.length : Int) < (wrap64 (a1 + (l2.length : Int)))) = false := decide_eq_false c5;clear c5
      by_cases c6 : 0 ≤ a1
      · rw [if_pos c6] at H;have c6b0 := eq_true c6;have c6b1 : decide (0 ≤ a1) = true := decide_eq_true c6;clear c6
        by_cases c7 : a1 ≤ (wrap64 (a1 + (l2.length : Int)))
        · rw [if_pos c7] at H;have c7b0 := eq_true c7;have c7b1 : decide (a1 ≤ (wrap64 (a1 + (l2.length : Int)))) = true := decide_eq_true c7
          by_cases c8 : (wrap64 (a1 + (l2.length : Int))) ≤ (l0.length : Int)
          · rw [if_pos c8] at H;have c8b0 := eq_true c8;have c8b1 : decide ((wrap64 (a1 + (l2.length : Int))) ≤ (l0.length : Int)) = true := decide_eq_true c8;replace H := Option.bind_eq_some_iff.mp H;obtain ⟨t183, A90, H⟩ := H;replace H : (some t183) = some r := H;have A9 := Aside0.mk A90;clear A90;obtain rfl := Option.some.inj H;obtain ⟨i010, hi010, _, hsz10, _⟩ := info_parts info9;obtain ⟨A10, hcut10, hA10, hC10⟩ := print_mid_of (P := Try.prog) Value.string (⟨#[]⟩ : ByteArray) 25 9 .i64 .i64 Try.underlying25 hi010 hsz10 A0 c0 l0 a1 (wrap64 (a1 + (l2.length : Int))) (dA) (by first|omega|exact dA) (dA) HC0.out;have HR182 := Aside0.mk (Kd.C_of_reads (h1 := fun _ => rfl) (hA10 _ (Kd.reads_of_C HR0.out)));have HC182 := Aside0.mk hC10;clear hA10 hC10 hi010 hsz10
            go_enter Try.func37, Try.ntmps37
            go_wp2_with (first|((with_reducible refine gate_callee (f := 59) rfl ?_);refine goesL_ (some 26) rfl rfl Try.func59 (by kernel_rfl) rfl #[.slice A10 ((l0.take ((wrap64 (a1 + (l2.length : Int))) : Int).toNat).drop (a1 : Int).toNat).length (c0 - a1.toNat), .slice A2 l2.length c2] rfl (by (try simp only [List.map_toArray, List.map_cons, List.map_nil]);first|done|(rw [show ((l0.take ((wrap64 (a1 + (l2.length : Int))) : Int).toNat).drop (a1 : Int).toNat).length = ((wrap64 (a1 + (l2.length : Int))).toNat - a1.toNat) from (by rw [List.length_drop, List.length_take];have h_ : ((wrap64 (a1 + (l2.length : Int))) : Int) ≤ (l0.length : Int) := dA;omega)] <;> rfl)|rfl|(simp only [List.length_drop, List.length_take];rfl)) ?_;(with_reducible refine (changeforgeref1_Equal.calls k _ _ ((l0.take ((wrap64 (a1 + (l2.length : Int))) : Int).toNat).drop (a1 : Int).toNat) _ _ l2 t183 _ ?side1 ?side2 ?side3 ?side4 A9.out).mono ?_);(case side1 => repeat (first|exact HR182.out|(with_reducible refine Kd.C_alloc ?_ _)|(with_reducible refine Kd.C_drewN ?_ _)|(with_reducible refine Kd.C_drew ?_)));(case side2 => exact HC182.out);(case side3 => repeat (first|exact HR2.out|(with_reducible refine Kd.C_alloc ?_ _)|(with_reducible refine Kd.C_drewN ?_ _)|(with_reducible refine Kd.C_drew ?_)));(case side4 => exact HC2.out);rintro e w' ⟨rfl, ⟨nd, rfl⟩⟩;refine ⟨_, rfl, ?_⟩))
            go_ret
            exact ⟨by first|rfl|(simp;done)|(simp [*];done), by repeat (first|exact Drawn0.refl _|apply Drawn0.step)⟩
          · rw [if_neg c8] at H;exact absurd H (by simp)
        · rw [if_neg c7] at H;exact absurd H (by simp)
      · rw [if_neg c6] at H;exact absurd H (by simp)

end Go.Proofs.Ytdnnkhogpobjbaa.PM
