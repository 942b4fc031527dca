/- Printed by a program of this session out of the translation: Lean functions for Go functions, and proofs that the Go functions answer the same. -/
import Derived.Test.YtdnnkhogpobjbaaPU0
import Derived.Test.YtdnnkhogpobjbaaPU3
namespace Go.Proofs.Ytdnnkhogpobjbaa.PU
open Go.RowKit Go.Proofs.Ytdnnkhogpobjbaa.Pre Go.Proofs.YtdnnkhogpobjbaaW.PrintWords Go.Proofs.YtdnnkhogpobjbaaW.PrintLast Go.Proofs.YtdnnkhogpobjbaaW.PrintMore
attribute [local go_sem] max2_int min2_int max_two min_two max_three min_three max_four min_four   -- for this text's walks alone
set_option linter.unusedVariables false
set_option linter.unusedSimpArgs false

/-! ### commute_growth: function 66 -/
def commute_growth.l0 : Nat → List (S78) → Int → Int → List (S47) → Int → Int → Option (Int)
  | 0, _, _, _, _, _, _ => none
  | k + 1, x1, x2, x7, x11, x12, x13 => if x13 < x12 then (if 0 ≤ x13 then (if x13 < (x11.length : Int) then (if x13 < (x1.length : Int) then (if ((rd_T78 x1 x13).f1) < x2 then (commute_growth.l0 k x1 x2 (wrap64 (x7 + (wrap64 ((((rd_T47 x11 x13).f2).length : Int) - (((rd_T47 x11 x13).f1).length : Int))))) x11 x12 (wrap64 (x13 + 1))) else (commute_growth.l0 k x1 x2 x7 x11 x12 (wrap64 (x13 + 1)))) else (none)) else (none)) else (none)) else (some x7)
def commute_growth.f (k : Nat) (l0_0 : List (S47)) (l1 : List (S78)) (a2 : Int) : Option (Int) := commute_growth.l0 k l1 a2 0 l0_0 (l0_0.length : Int) 0
theorem commute_growth.mono_l : ∀ k, (∀ y0 y1 y2 y3 y4 y5, LeO (commute_growth.l0 k y0 y1 y2 y3 y4 y5) (commute_growth.l0 (k + 1) y0 y1 y2 y3 y4 y5))
  | 0 => fun _ _ _ _ _ _ r h => by simp [commute_growth.l0] at h
  | k + 1 => by
    have ih0 := commute_growth.mono_l k
    · intro y0 y1 y2 y3 y4 y5
      unfold commute_growth.l0
      repeat' first
      | (with_reducible exact ih0 _ _ _ _ _ _)
      | (with_reducible exact LeO.refl _)
      | (with_reducible exact LeO.none _)
      | (with_reducible refine LeO.ite ?_ ?_)
      | (with_reducible refine LeO.bind ?_ (fun _ => ?_))
      | exact ih0 _ _ _ _ _ _
      | exact LeO.none _
      | refine LeO.ite ?_ ?_
      | refine LeO.bind ?_ (fun _ => ?_)
theorem commute_growth.mono : ∀ a0 a1 a2 k, LeO (commute_growth.f k a0 a1 a2) (commute_growth.f (k + 1) a0 a1 a2) := by
  intro a0 a1 a2 k
  have ih0 := commute_growth.mono_l k
  unfold commute_growth.f
  repeat' first
      | (with_reducible exact ih0 _ _ _ _ _ _)
      | (with_reducible exact LeO.refl _)
      | (with_reducible exact LeO.none _)
      | (with_reducible refine LeO.ite ?_ ?_)
      | (with_reducible refine LeO.bind ?_ (fun _ => ?_))
      | exact ih0 _ _ _ _ _ _
      | exact LeO.none _
      | refine LeO.ite ?_ ?_
      | refine LeO.bind ?_ (fun _ => ?_)
set_option maxHeartbeats 8000000 in
set_option maxRecDepth 100000 in
theorem commute_growth.calls (k : Nat) (A0_0 : Option Addr) (c0_0 : Nat) (l0_0 : List (S47)) (A1 : Option Addr) (c1 : Nat) (l1 : List (S78)) (a2 : Int) (r : Int) (w : World) (hr0_0 : Kd.C k47 w A0_0 l0_0.length l0_0) (hc0_0 : l0_0.length ≤ c0_0) (hr1 : Kd.C k78 w A1 l1.length l1) (hc1 : l1.length ≤ c1) (h : commute_growth.f k l0_0 l1 a2 = some r) :
    Calls Try.prog 66 #[.agg #[.slice A0_0 l0_0.length c0_0], .slice A1 l1.length c1, .int .i64 a2] w fun e w' => e = .returned (.int .i64 r) ∧ Below w.heap.size w w' := by
  have hu24 := Try.underlying24;have hu47 := Try.underlying47;have HR0_0 := Aside0.mk hr0_0;have HC0_0 := Aside0.mk hc0_0;clear hr0_0 hc0_0;have HR1 := Aside0.mk hr1;have HC1 := Aside0.mk hc1;clear hr1 hc1;have HB := Aside0.mk (Below.refl w.heap.size w);have H : (commute_growth.l0 k l1 a2 0 l0_0 (l0_0.length : Int) 0) = some r := h;clear h;have H' := Aside0.mk H;clear H
  go_enter Try.func66, Try.ntmps66
  go_wp2_with (first|((with_reducible refine gate_dst (N := 3) rfl ?_);refine bE 3 #[.slice A0_0 l0_0.length c0_0] 24 ?_;intro gb189 hg w4 hbox hb;have BK189 := Aside0.mk (hbox);have GW189 := gBe HB hg;have GE189 := gBe HB hg;replace HB := sBe HB hb;clear hb hbox hg;have hcz5_0 := hC BK189 0 (.slice A0_0 l0_0.length c0_0);have hfz5_0 := blk_frozen BK189.out 0))
  go_loopg [7, 13] k (fun kq v7 v13 w' => ∃ (x7_1 : Int) (x13_1 : Int), v7 = .int .i64 x7_1 ∧ v13 = .int .i64 x13_1 ∧ Aside0 (commute_growth.l0 kq l1 a2 x7_1 l0_0 (l0_0.length : Int) x13_1 = some r) ∧ Aside0 (kq ≤ k) ∧ Bk w' gb189 24 #[(.slice A0_0 l0_0.length c0_0)] ∧ Aside0 (Below w.heap.size w w'))
  case atStart => exact ⟨(0), (0), (by first|rfl|(simp only [i64_w, i32_w];done)|(simp only [i64_w, i32_w];rfl)|(simp;done)|(simp [*];done)), (by first|rfl|(simp only [i64_w, i32_w];done)|(simp only [i64_w, i32_w];rfl)|(simp;done)|(simp [*];done)), H', ⟨Nat.le_refl _⟩, ⟨kK⟩, ⟨eB⟩⟩
  case round =>
    clear H'
    try clear c1
    try clear p2
    try clear hcz5_0
    try clear hfz5_0
    obtain ⟨x7_1, x13_1, rfl, rfl, HA, HK1, BK189, HB⟩ := hrel
    cases gk with
    | zero => exact absurd HA.out (by simp [commute_growth.l0])
    | succ k1 =>
      have H := HA.out;clear HA;simp only [commute_growth.l0] at H
      by_cases c6 : x13_1 < (l0_0.length : Int)
      · rw [if_pos c6] at H;have c6b0 : decide (x13_1 < (l0_0.length : Int)) = true := decide_eq_true c6;clear c6
        by_cases c7 : 0 ≤ x13_1
        · rw [if_pos c7] at H;have c7b0 : decide (0 ≤ x13_1) = true := decide_eq_true c7;clear c7
          by_cases c8 : x13_1 < (l0_0.length : Int)
          · rw [if_pos c8] at H;have c8b0 : decide (x13_1 < (l0_0.length : Int)) = true := decide_eq_true c8;clear c8
            by_cases c9 : x13_1 < (l1.length : Int)
            · rw [if_pos c9] at H;have c9b0 : decide (x13_1 < (l1.length : Int)) = true := decide_eq_true c9;clear c9;have p190 : 0 ≤ (x13_1 : Int) := dA;have q190 : x13_1 < (l0_0.length : Int) := dA;obtain ⟨ad190, A190_1, c190_1, A190_2, c190_2, e190, hx190_0, hx190_1, hx190_2, hl190_1, hi190_1, hl190_2, hi190_2⟩ := at_T47 HR0_0.out x13_1 p190 q190
              cases e190
              replace hx190_0 := (hX HB hx190_0:);replace hx190_1 := (hX HB hx190_1:);replace hx190_2 := (hX HB hx190_2:);have HR190_1 := Aside0.mk hi190_1;have HC190_1 := Aside0.mk hl190_1;clear hi190_1 hl190_1;have HR190_2 := Aside0.mk hi190_2;have HC190_2 := Aside0.mk hl190_2
              by_cases c10 : ((rd_T78 l1 x13_1).f1) < a2
              · rw [if_pos c10] at H;have c10b0 : decide (((rd_T78 l1 x13_1).f1) < a2) = true := decide_eq_true c10;clear c10;have H' := Aside0.mk H;clear H;clear hi190_2 hl190_2;replace p190 := eq_true p190;replace q190 := eq_true q190
                go_wp2_with (first|((with_reducible refine gate_dst (N := 9) rfl ?_);refine bE 9 #[.int .i64 0, .slice none 0 0, .slice none 0 0] 47 ?_;intro gb191 hg w11 hbox hb;have BK191 := Aside0.mk (hbox);have GW191 := gBe HB hg;have GE191 := gBe HB hg;have NB189_191 := nL BK189 hg;have NB191_189 := nG BK189 hg;replace BK189 := lJ BK189 hb;replace HB := sBe HB hb;clear hb hbox hg;have hnb12 := eq_false NB191_189.out;have hnc12 := eq_false NB189_191.out;have hcz13_0 := hC BK191 0 (.int .i64 0);have hcz13_1 := hC BK191 1 (.slice none 0 0);have hcz13_2 := hC BK191 2 (.slice none 0 0);have hfz13_0 := blk_frozen BK191.out 0;have hfz13_1 := blk_frozen BK191.out 1;have hfz13_2 := blk_frozen BK191.out 2;have p192 : 0 ≤ (x13_1 : Int) := dA;have q192 : x13_1 < (l1.length : Int) := dA;obtain ⟨ad192, e192, hx192_0, hx192_1⟩ := at_T78 HR1.out x13_1 p192 q192;cases e192;have hn192_0 : ad192.block ≠ gb191 := Nat.ne_of_lt (Nat.lt_of_lt_of_le (by have := World.block_lt_of_cell? _ _ hx192_0;first|rwa [add_block] at this|exact this) GW191.out);have hn192_1 : ad192.block ≠ gb191 := Nat.ne_of_lt (Nat.lt_of_lt_of_le (by have := World.block_lt_of_cell? _ _ hx192_0;first|rwa [add_block] at this|exact this) GW191.out);have hn192_2 : ad192.block ≠ gb191 := Nat.ne_of_lt (Nat.lt_of_lt_of_le (by have := World.block_lt_of_cell? _ _ hx192_0;first|rwa [add_block] at this|exact this) GW191.out);replace hx192_0 := (hX HB hx192_0:);replace hx192_1 := (hX HB hx192_1:);replace hx192_0 := (cell_far (p := ⟨gb191, 0, none⟩) (by first|(rw [add_block];exact hn192_0)|(show (Addr.add _ _).block ≠ _;rw [add_block];exact hn192_0)|exact hn192_0) (.int .i64 ((rd_T47 l0_0 x13_1).f0))).trans hx192_0;replace hx192_1 := (cell_far (p := ⟨gb191, 0, none⟩) (by first|(rw [add_block];exact hn192_0)|(show (Addr.add _ _).block ≠ _;rw [add_block];exact hn192_0)|exact hn192_0) (.int .i64 ((rd_T47 l0_0 x13_1).f0))).trans hx192_1;replace hx192_0 := (cell_far (p := ⟨gb191, 1, none⟩) (by first|(rw [add_block];exact hn192_1)|(show (Addr.add _ _).block ≠ _;rw [add_block];exact hn192_1)|exact hn192_1) (.slice A190_1 ((rd_T47 l0_0 x13_1).f1).length c190_1)).trans hx192_0;replace hx192_1 := (cell_far (p := ⟨gb191, 1, none⟩) (by first|(rw [add_block];exact hn192_1)|(show (Addr.add _ _).block ≠ _;rw [add_block];exact hn192_1)|exact hn192_1) (.slice A190_1 ((rd_T47 l0_0 x13_1).f1).length c190_1)).trans hx192_1;replace hx192_0 := (cell_far (p := ⟨gb191, 2, none⟩) (by first|(rw [add_block];exact hn192_2)|(show (Addr.add _ _).block ≠ _;rw [add_block];exact hn192_2)|exact hn192_2) (.slice A190_2 ((rd_T47 l0_0 x13_1).f2).length c190_2)).trans hx192_0;replace hx192_1 := (cell_far (p := ⟨gb191, 2, none⟩) (by first|(rw [add_block];exact hn192_2)|(show (Addr.add _ _).block ≠ _;rw [add_block];exact hn192_2)|exact hn192_2) (.slice A190_2 ((rd_T47 l0_0 x13_1).f2).length c190_2)).trans hx192_1;clear hn192_0;clear hn192_1;clear hn192_2;replace p192 := eq_true p192;replace q192 := eq_true q192))
                go_roundg k1
                case measure => have := HK1.out;omega
                case rel => exact ⟨(wrap64 (x7_1 + (wrap64 ((((rd_T47 l0_0 x13_1).f2).length : Int) - (((rd_T47 l0_0 x13_1).f1).length : Int))))), (wrap64 (x13_1 + 1)), (by first|rfl|(simp only [i64_w, i32_w];done)|(simp only [i64_w, i32_w];rfl)|(simp;done)|(simp [*];done)), (by first|rfl|(simp only [i64_w, i32_w];done)|(simp only [i64_w, i32_w];rfl)|(simp;done)|(simp [*];done)), H', ⟨by have := HK1.out;omega⟩, ⟨kK⟩, ⟨eB⟩⟩
              · rw [if_neg c10] at H;have c10b0 : decide (((rd_T78 l1 x13_1).f1) < a2) = false := decide_eq_false c10;clear c10;have H' := Aside0.mk H;clear H;clear hi190_2 hl190_2;replace p190 := eq_true p190;replace q190 := eq_true q190
                go_wp2_with (first|((with_reducible refine gate_dst (N := 9) rfl ?_);refine bE 9 #[.int .i64 0, .slice none 0 0, .slice none 0 0] 47 ?_;intro gb191 hg w11 hbox hb;have BK191 := Aside0.mk (hbox);have GW191 := gBe HB hg;have GE191 := gBe HB hg;have NB189_191 := nL BK189 hg;have NB191_189 := nG BK189 hg;replace BK189 := lJ BK189 hb;replace HB := sBe HB hb;clear hb hbox hg;have hnb12 := eq_false NB191_189.out;have hnc12 := eq_false NB189_191.out;have hcz13_0 := hC BK191 0 (.int .i64 0);have hcz13_1 := hC BK191 1 (.slice none 0 0);have hcz13_2 := hC BK191 2 (.slice none 0 0);have hfz13_0 := blk_frozen BK191.out 0;have hfz13_1 := blk_frozen BK191.out 1;have hfz13_2 := blk_frozen BK191.out 2;have p192 : 0 ≤ (x13_1 : Int) := dA;have q192 : x13_1 < (l1.length : Int) := dA;obtain ⟨ad192, e192, hx192_0, hx192_1⟩ := at_T78 HR1.out x13_1 p192 q192;cases e192;have hn192_0 : ad192.block ≠ gb191 := Nat.ne_of_lt (Nat.lt_of_lt_of_le (by have := World.block_lt_of_cell? _ _ hx192_0;first|rwa [add_block] at this|exact this) GW191.out);have hn192_1 : ad192.block ≠ gb191 := Nat.ne_of_lt (Nat.lt_of_lt_of_le (by have := World.block_lt_of_cell? _ _ hx192_0;first|rwa [add_block] at this|exact this) GW191.out);have hn192_2 : ad192.block ≠ gb191 := Nat.ne_of_lt (Nat.lt_of_lt_of_le (by have := World.block_lt_of_cell? _ _ hx192_0;first|rwa [add_block] at this|exact this) GW191.out);replace hx192_0 := (hX HB hx192_0:);replace hx192_1 := (hX HB hx192_1:);replace hx192_0 := (cell_far (p := ⟨gb191, 0, none⟩) (by first|(rw [add_block];exact hn192_0)|(show (Addr.add _ _).block ≠ _;rw [add_block];exact hn192_0)|exact hn192_0) (.int .i64 ((rd_T47 l0_0 x13_1).f0))).trans hx192_0;replace hx192_1 := (cell_far (p := ⟨gb191, 0, none⟩) (by first|(rw [add_block];exact hn192_0)|(show (Addr.add _ _).block ≠ _;rw [add_block];exact hn192_0)|exact hn192_0) (.int .i64 ((rd_T47 l0_0 x13_1).f0))).trans hx192_1;replace hx192_0 := (cell_far (p := ⟨gb191, 1, none⟩) (by first|(rw [add_block];exact hn192_1)|(show (Addr.add _ _).block ≠ _;rw [add_block];exact hn192_1)|exact hn192_1) (.slice A190_1 ((rd_T47 l0_0 x13_1).f1).length c190_1)).trans hx192_0;replace hx192_1 := (cell_far (p := ⟨gb191, 1, none⟩) (by first|(rw [add_block];exact hn192_1)|(show (Addr.add _ _).block ≠ _;rw [add_block];exact hn192_1)|exact hn192_1) (.slice A190_1 ((rd_T47 l0_0 x13_1).f1).length c190_1)).trans hx192_1;replace hx192_0 := (cell_far (p := ⟨gb191, 2, none⟩) (by first|(rw [add_block];exact hn192_2)|(show (Addr.add _ _).block ≠ _;rw [add_block];exact hn192_2)|exact hn192_2) (.slice A190_2 ((rd_T47 l0_0 x13_1).f2).length c190_2)).trans hx192_0;replace hx192_1 := (cell_far (p := ⟨gb191, 2, none⟩) (by first|(rw [add_block];exact hn192_2)|(show (Addr.add _ _).block ≠ _;rw [add_block];exact hn192_2)|exact hn192_2) (.slice A190_2 ((rd_T47 l0_0 x13_1).f2).length c190_2)).trans hx192_1;clear hn192_0;clear hn192_1;clear hn192_2;replace p192 := eq_true p192;replace q192 := eq_true q192))
                go_roundg k1
                case measure => have := HK1.out;omega
                case rel => exact ⟨(x7_1), (wrap64 (x13_1 + 1)), (by first|rfl|(simp only [i64_w, i32_w];done)|(simp only [i64_w, i32_w];rfl)|(simp;done)|(simp [*];done)), (by first|rfl|(simp only [i64_w, i32_w];done)|(simp only [i64_w, i32_w];rfl)|(simp;done)|(simp [*];done)), H', ⟨by have := HK1.out;omega⟩, ⟨kK⟩, ⟨eB⟩⟩
            · rw [if_neg c9] at H;exact absurd H (by simp)
          · rw [if_neg c8] at H;exact absurd H (by simp)
        · rw [if_neg c7] at H;exact absurd H (by simp)
      · rw [if_neg c6] at H;have c6b0 : decide (x13_1 < (l0_0.length : Int)) = false := decide_eq_false c6;clear c6;obtain rfl := Option.some.inj H
        go_wp2
        go_ret
        exact ⟨rW, eB⟩

/-! ### commute_shifted: function 54 -/
def commute_shifted.l0 : Nat → List (S78) → Int → List (S47) → Int → Int → List (S47) → List (S47) → Option ((List (S47)))
  | 0, _, _, _, _, _, _, _ => none
  | k + 1, x2, x3, x13, x14, x15, x195000, x197000 => if x15 < x14 then (if 0 ≤ x15 then (if x15 < (x13.length : Int) then ((commute_growth.f k x195000 x2 ((rd_T47 x13 x15).f0)).bind fun t199 => ((textpatch_Moved.f ((rd_T47 x13 x15).f0) ((rd_T47 x13 x15).f1) ((rd_T47 x13 x15).f2) (wrap64 (((rd_T47 x13 x15).f0) + (wrap64 (x3 * t199))))).bind fun bt200 => (if x197000.length < 2513169434916 then (commute_shifted.l0 k x2 x3 x13 x14 (wrap64 (x15 + 1)) x195000 (x197000 ++ [(⟨bt200.1, bt200.2.1, bt200.2.2⟩ : S47)])) else (none)))) else (none)) else (none)) else (some x197000)
def commute_shifted.f (k : Nat) (l0_0 : List (S47)) (l1_0 : List (S47)) (l2 : List (S78)) (a3 : Int) : Option ((List (S47))) := commute_shifted.l0 k l2 a3 l0_0 (l0_0.length : Int) 0 l1_0 ([] : List (S47))
theorem commute_shifted.mono_l : ∀ k, (∀ y0 y1 y2 y3 y4 y5 y6, LeO (commute_shifted.l0 k y0 y1 y2 y3 y4 y5 y6) (commute_shifted.l0 (k + 1) y0 y1 y2 y3 y4 y5 y6))
  | 0 => fun _ _ _ _ _ _ _ r h => by simp [commute_shifted.l0] at h
  | k + 1 => by
    have ih0 := commute_shifted.mono_l k
    · intro y0 y1 y2 y3 y4 y5 y6
      unfold commute_shifted.l0
      repeat' first
      | (with_reducible exact ih0 _ _ _ _ _ _ _)
      | (with_reducible exact commute_growth.mono _ _ _ _)
      | (with_reducible exact LeO.refl _)
      | (with_reducible exact LeO.none _)
      | (with_reducible refine LeO.ite ?_ ?_)
      | (with_reducible refine LeO.bind ?_ (fun _ => ?_))
      | exact ih0 _ _ _ _ _ _ _
      | exact commute_growth.mono _ _ _ _
      | exact LeO.none _
      | refine LeO.ite ?_ ?_
      | refine LeO.bind ?_ (fun _ => ?_)
theorem commute_shifted.mono : ∀ a0 a1 a2 a3 k, LeO (commute_shifted.f k a0 a1 a2 a3) (commute_shifted.f (k + 1) a0 a1 a2 a3) := by
  intro a0 a1 a2 a3 k
  have ih0 := commute_shifted.mono_l k
  unfold commute_shifted.f
  repeat' first
      | (with_reducible exact ih0 _ _ _ _ _ _ _)
      | (with_reducible exact commute_growth.mono _ _ _ _)
      | (with_reducible exact LeO.refl _)
      | (with_reducible exact LeO.none _)
      | (with_reducible refine LeO.ite ?_ ?_)
      | (with_reducible refine LeO.bind ?_ (fun _ => ?_))
      | exact ih0 _ _ _ _ _ _ _
      | exact commute_growth.mono _ _ _ _
      | exact LeO.none _
      | refine LeO.ite ?_ ?_
      | refine LeO.bind ?_ (fun _ => ?_)
def commute_shifted.T5 : Bool × List (List Nat × List Nat) := (true, [([], []), ([0], [0]), ([], []), ([], []), ([3], [3]), ([], []), ([], []), ([], []), ([], []), ([8], [8]), ([6, 7, 9], [6, 7, 9]), ([5, 10], [5, 10]), ([4, 11], [4, 11]), ([2, 12, 10], [2, 12]), ([13], [13]), ([1, 14, 13], [1, 14]), ([0, 1, 2, 3, 4, 5, 6, 7, 8, 9, 10, 11, 12, 13, 14, 15], []), ([16, 15, 15, 0, 1, 2, 3, 4, 5, 6, 7, 8, 9, 10, 11, 12, 13, 14, 15], [15, 16])])
def commute_shifted.B5 : List Nat := [0, 1, 0, 0, 8, 0, 0, 0, 0, 256, 960, 2016, 4088, 8188, 16380, 32767, 65535, 131071]
theorem commute_shifted.tab5 : rtab .any (opsOf Try.f54 5) = commute_shifted.T5 := by kernel_rfl
theorem commute_shifted.bits5 : waitsOk commute_shifted.T5.2 commute_shifted.B5 = true := by kernel_rfl
set_option maxHeartbeats 8000000 in
set_option maxRecDepth 100000 in
theorem commute_shifted.calls (k : Nat) (A0_0 : Option Addr) (c0_0 : Nat) (l0_0 : List (S47)) (A1_0 : Option Addr) (c1_0 : Nat) (l1_0 : List (S47)) (A2 : Option Addr) (c2 : Nat) (l2 : List (S78)) (a3 : Int) (r : List (S47)) (w : World) (hr0_0 : Kd.C k47 w A0_0 l0_0.length l0_0) (hc0_0 : l0_0.length ≤ c0_0) (hr1_0 : Kd.C k47 w A1_0 l1_0.length l1_0) (hc1_0 : l1_0.length ≤ c1_0) (hr2 : Kd.C k78 w A2 l2.length l2) (hc2 : l2.length ≤ c2) (h : commute_shifted.f k l0_0 l1_0 l2 a3 = some r) :
    Calls Try.prog 54 #[.agg #[.slice A0_0 l0_0.length c0_0], .agg #[.slice A1_0 l1_0.length c1_0], .slice A2 l2.length c2, .int .i64 a3] w fun e w' => ∃ v0_ : Value, e = .returned (.agg #[v0_]) ∧ Kd.S k47 47 w' w.heap.size (fun _ => True) v0_ r ∧ Below w.heap.size w w' := by
  have hu24 := Try.underlying24;have hu47 := Try.underlying47;have HR0_0 := Aside0.mk hr0_0;have HC0_0 := Aside0.mk hc0_0;clear hr0_0 hc0_0;have HR1_0 := Aside0.mk hr1_0;have HC1_0 := Aside0.mk hc1_0;clear hr1_0 hc1_0;have HR2 := Aside0.mk hr2;have HC2 := Aside0.mk hc2;clear hr2 hc2;have HB := Aside0.mk (Below.refl w.heap.size w);have H : (commute_shifted.l0 k l2 a3 l0_0 (l0_0.length : Int) 0 l1_0 ([] : List (S47))) = some r := h;clear h;have H' := Aside0.mk H;clear H
  go_enter Try.func54, Try.ntmps54
  go_wp2_with (first|((with_reducible refine gate_dst (N := 4) rfl ?_);refine bE 4 #[.slice A0_0 l0_0.length c0_0] 24 ?_;intro gb193 hg w5 hbox hb;have BK193 := Aside0.mk (hbox);have GW193 := gBe HB hg;have GE193 := gBe HB hg;replace HB := sBe HB hb;clear hb hbox hg)|((with_reducible refine gate_dst (N := 5) rfl ?_);refine bE 5 #[.slice A1_0 l1_0.length c1_0] 24 ?_;intro gb194 hg w6 hbox hb;have BK194 := Aside0.mk (hbox);have GW194 := gBe HB hg;have GE194 := gBe HB hg;have NB193_194 := nL BK193 hg;have NB194_193 := nG BK193 hg;replace BK193 := lJ BK193 hb;replace HB := sBe HB hb;clear hb hbox hg)|((with_reducible refine gate_dst (N := 8) rfl ?_);refine bE 8 #[.slice none 0 0] 24 ?_;intro gb195 hg w7 hbox hb;have BK195 := Aside0.mk (hbox);have GW195 := gBe HB hg;have GE195 := gBe HB hg;have NB193_195 := nL BK193 hg;have NB195_193 := nG BK193 hg;have NB194_195 := nL BK194 hg;have NB195_194 := nG BK194 hg;replace BK193 := lJ BK193 hb;replace BK194 := lJ BK194 hb;replace HB := sBe HB hb;clear hb hbox hg)|((with_reducible refine gate_dst (N := 9) rfl ?_);refine bE 9 #[.slice none 0 0] 24 ?_;intro gb196 hg w8 hbox hb;have BK196 := Aside0.mk (hbox);have GW196 := gBe HB hg;have GE196 := gBe HB hg;have NB193_196 := nL BK193 hg;have NB196_193 := nG BK193 hg;have NB194_196 := nL BK194 hg;have NB196_194 := nG BK194 hg;have NB195_196 := nL BK195 hg;have NB196_195 := nG BK195 hg;replace BK193 := lJ BK193 hb;replace BK194 := lJ BK194 hb;replace BK195 := lJ BK195 hb;replace HB := sBe HB hb;clear hb hbox hg;have hnb9 := eq_false NB193_194.out;have hnc9 := eq_false NB194_193.out;have hnb10 := eq_false NB193_195.out;have hnc10 := eq_false NB195_193.out;have hnb11 := eq_false NB193_196.out;have hnc11 := eq_false NB196_193.out;have hcz12_0 := hC BK193 0 (.slice A0_0 l0_0.length c0_0);have hfz12_0 := blk_frozen BK193.out 0))
  go_loopg [15] k (fun kq v15 w' => ∃ (x15_1 : Int) (x197000_1 : List (S47)) (u197000 : Value), v15 = .int .i64 x15_1 ∧ Aside0 (commute_shifted.l0 kq l2 a3 l0_0 (l0_0.length : Int) x15_1 l1_0 x197000_1 = some r) ∧ Aside0 (kq ≤ k) ∧ Aside0 (Kd.S k47 47 w' w.heap.size (fun _ => True) u197000 x197000_1) ∧ Bk w' gb193 24 #[(.slice A0_0 l0_0.length c0_0)] ∧ Bk w' gb194 24 #[(.slice A1_0 l1_0.length c1_0)] ∧ Bk w' gb195 24 #[(.slice none 0 0)] ∧ Bk w' gb196 24 #[u197000] ∧ Aside0 (Below w.heap.size w w'))
  case atStart => exact ⟨(0), (([] : List (S47))), (.slice none 0 0), (by first|rfl|(simp only [i64_w, i32_w];done)|(simp only [i64_w, i32_w];rfl)|(simp;done)|(simp [*];done)), H', ⟨Nat.le_refl _⟩, ⟨by first|exact Kd.S_nil _ _ _ _ _|exact Kd.N_nil _ _ _ _ _|exact Kd.V_nil _ _ _ _ _|exact Kd.Q_nil _ _ _ _ _|exact Kd.R_nil _ _ _ _ _⟩, ⟨kK⟩, ⟨kK⟩, ⟨kK⟩, ⟨kK⟩, ⟨eB⟩⟩
  case round =>
    clear H'
    try clear c1
    try clear c2
    try clear p2
    try clear c5
    try clear c9
    try clear c10
    try clear c11
    try clear hcz12_0
    try clear hfz12_0
    obtain ⟨x15_1, x197000_1, u197000, rfl, HA, HK1, HO_197000, BK193, BK194, BK195, BK196, HB⟩ := hrel
    cases gk with
    | zero => exact absurd HA.out (by simp [commute_shifted.l0])
    | succ k1 =>
      have H := HA.out;clear HA;simp only [commute_shifted.l0] at H
      by_cases c13 : x15_1 < (l0_0.length : Int)
      · rw [if_pos c13] at H;have c13b0 : decide (x15_1 < (l0_0.length : Int)) = true := decide_eq_true c13;clear c13
        by_cases c14 : 0 ≤ x15_1
        · rw [if_pos c14] at H;have c14b0 : decide (0 ≤ x15_1) = true := decide_eq_true c14;clear c14
          by_cases c15 : x15_1 < (l0_0.length : Int)
          · rw [if_pos c15] at H;have c15b0 : decide (x15_1 < (l0_0.length : Int)) = true := decide_eq_true c15;clear c15;replace H := Option.bind_eq_some_iff.mp H;obtain ⟨t199, A160, H⟩ := H;replace H : ((textpatch_Moved.f ((rd_T47 l0_0 x15_1).f0) ((rd_T47 l0_0 x15_1).f1) ((rd_T47 l0_0 x15_1).f2) (wrap64 (((rd_T47 l0_0 x15_1).f0) + (wrap64 (a3 * t199))))).bind fun bt200 => (if x197000_1.length < 2513169434916 then (commute_shifted.l0 k1 l2 a3 l0_0 (l0_0.length : Int) (wrap64 (x15_1 + 1)) l1_0 (x197000_1 ++ [(⟨bt200.1, bt200.2.1, bt200.2.2⟩ : S47)])) else (none))) = some r := H;have A16 := Aside0.mk A160;clear A160;replace H := Option.bind_eq_some_iff.mp H;obtain ⟨⟨t200, t201, t204⟩, A170, H⟩ := H;replace H : (if x197000_1.length < 2513169434916 then (commute_shifted.l0 k1 l2 a3 l0_0 (l0_0.length : Int) (wrap64 (x15_1 + 1)) l1_0 (x197000_1 ++ [(⟨t200, t201, t204⟩ : S47)])) else (none)) = some r := H;have A17 := Aside0.mk A170;clear A170
            by_cases c18 : x197000_1.length < 2513169434916
            · rw [if_pos c18] at H;have LMc18 := Aside0.mk c18;clear c18;obtain ⟨y207, hy207⟩ : ∃ y_ : List (S47), y_ = (x197000_1 ++ [(⟨t200, t201, t204⟩ : S47)]) := ⟨_, rfl⟩;replace H : (commute_shifted.l0 k1 l2 a3 l0_0 (l0_0.length : Int) (wrap64 (x15_1 + 1)) l1_0 y207) = some r := (by first|(rw [hy207];with_reducible exact H)|(have H2_ := (Option.bind_some _ _).symm.trans H;rw [hy207];with_reducible exact H2_)|(have H2_ := (Option.bind_some _ _).symm.trans H;with_reducible exact H2_)|with_reducible exact H|(rw [hy207];exact H)|exact H);have Ny207 := Aside0.mk hy207;clear hy207;have H' := Aside0.mk H;clear H;have p197 : 0 ≤ (x15_1 : Int) := dA;have q197 : x15_1 < (l0_0.length : Int) := dA;obtain ⟨ad197, A197_1, c197_1, A197_2, c197_2, e197, hx197_0, hx197_1, hx197_2, hl197_1, hi197_1, hl197_2, hi197_2⟩ := at_T47 HR0_0.out x15_1 p197 q197
              cases e197
              replace hx197_0 := (hX HB hx197_0:);replace hx197_1 := (hX HB hx197_1:);replace hx197_2 := (hX HB hx197_2:);have HR197_1 := Aside0.mk hi197_1;have HC197_1 := Aside0.mk hl197_1;clear hi197_1 hl197_1;have HR197_2 := Aside0.mk hi197_2;have HC197_2 := Aside0.mk hl197_2;clear hi197_2 hl197_2;replace p197 := eq_true p197;replace q197 := eq_true q197
              try go_wp2_with (first|((with_reducible refine gate_dst (N := 11) rfl ?_);refine bE 11 #[.int .i64 0, .slice none 0 0, .slice none 0 0] 47 ?_;intro gb198 hg w19 hbox hb;have BK198 := Aside0.mk (hbox);have GW198 := gBe HB hg;have GE198 := gBe HB hg;have NB193_198 := nL BK193 hg;have NB198_193 := nG BK193 hg;have NB194_198 := nL BK194 hg;have NB198_194 := nG BK194 hg;have NB195_198 := nL BK195 hg;have NB198_195 := nG BK195 hg;have NB196_198 := nL BK196 hg;have NB198_196 := nG BK196 hg;replace HO_197000 := Aside0.mk (Kd.S_below (Kd.S_elderB (sK HO_197000) gb198 (Nat.le_of_eq hg.symm)) hb);replace BK193 := lJ BK193 hb;replace BK194 := lJ BK194 hb;replace BK195 := lJ BK195 hb;replace BK196 := lJ BK196 hb;replace HB := sBe HB hb;clear hb hbox hg;have hnb20 := eq_false NB198_193.out;have hnc20 := eq_false NB193_198.out;have hnb21 := eq_false NB198_194.out;have hnc21 := eq_false NB194_198.out;have hnb22 := eq_false NB198_195.out;have hnc22 := eq_false NB195_198.out;have hnb23 := eq_false NB198_196.out;have hnc23 := eq_false NB196_198.out;have hcz24_0 := hC BK198 0 (.int .i64 0);have hcz24_1 := hC BK198 1 (.slice none 0 0);have hcz24_2 := hC BK198 2 (.slice none 0 0);have hfz24_0 := blk_frozen BK198.out 0;have hfz24_1 := blk_frozen BK198.out 1;have hfz24_2 := blk_frozen BK198.out 2))
              obtain ⟨w25, hW_⟩ : ∃ w_, w_ = (((w19.setCell ⟨gb198, 0, none⟩ (.int .i64 ((rd_T47 l0_0 x15_1).f0))).setCell ⟨gb198, 1, none⟩ (.slice A197_1 ((rd_T47 l0_0 x15_1).f1).length c197_1)).setCell ⟨gb198, 2, none⟩ (.slice A197_2 ((rd_T47 l0_0 x15_1).f2).length c197_2)) := ⟨_, rfl⟩;have n0_ : Aside0 (Kd.S k47 47 w25 w.heap.size (fun k_ => k_ ≠ gb198) u197000 x197000_1) := ⟨by rw [hW_];(with_reducible repeat (first|apply Kd.S_alloc|apply Kd.S_drewN|apply Kd.S_drew));exact Kd.S_mono (Kd.S_far (p := ⟨gb198, 2, none⟩) (Kd.S_far (p := ⟨gb198, 1, none⟩) (Kd.S_far (p := ⟨gb198, 0, none⟩) (Kd.S_mono HO_197000.out (fun k_ hk => (⟨hk, hk.2⟩ : _ ∧ k_ ≠ gb198))) (fun _ hk => hk.2) (.int .i64 ((rd_T47 l0_0 x15_1).f0))) (fun _ hk => hk.2) (.slice A197_1 ((rd_T47 l0_0 x15_1).f1).length c197_1)) (fun _ hk => hk.2) (.slice A197_2 ((rd_T47 l0_0 x15_1).f2).length c197_2)) (fun _ hk => hk.1.2)⟩;have n1_ : Bk w25 gb193 24 #[.slice (some ad197) l0_0.length c0_0] := ⟨by rw [hW_];exact kK⟩;have n2_ : Bk w25 gb194 24 #[.slice A1_0 l1_0.length c1_0] := ⟨by rw [hW_];exact kK⟩;have n3_ : Bk w25 gb195 24 #[.slice none 0 0] := ⟨by rw [hW_];exact kK⟩;have n4_ : Bk w25 gb196 24 #[u197000] := ⟨by rw [hW_];exact kK⟩;have n5_ : Bk w25 gb198 47 #[.int .i64 ((rd_T47 l0_0 x15_1).f0), .slice A197_1 ((rd_T47 l0_0 x15_1).f1).length c197_1, .slice A197_2 ((rd_T47 l0_0 x15_1).f2).length c197_2] := ⟨by rw [hW_];exact kK⟩;have n6_ : Aside0 (Below w.heap.size w w25) := ⟨by rw [hW_];exact eB⟩;(try clear HO_197000);(try clear BK193);(try clear BK194);(try clear BK195);(try clear BK196);(try clear BK198);(try clear HB);(try rw [← hW_]);clear hW_;have HO_197000 := n0_;have BK193 := n1_;have BK194 := n2_;have BK195 := n3_;have BK196 := n4_;have BK198 := n5_;have HB := n6_;clear n0_ n1_ n2_ n3_ n4_ n5_ n6_;replace HO_197000 := Aside0.mk (Kd.S_drew HO_197000.out);replace BK193 := Aside0.mk (blk_drew BK193.out);replace BK194 := Aside0.mk (blk_drew BK194.out);replace BK195 := Aside0.mk (blk_drew BK195.out);replace BK196 := Aside0.mk (blk_drew BK196.out);replace BK198 := Aside0.mk (blk_drew BK198.out);replace HB := Aside0.mk (below_drew1 HB.out);refine start_ (n := 18) (S := fun w' => w'.cell? ⟨gb196, 0, none⟩ = some (u197000) ∧ w'.cell? ⟨gb198, 0, none⟩ = some (.int .i64 ((rd_T47 l0_0 x15_1).f0)) ∧ w'.cell? ⟨gb198, 1, none⟩ = some (.slice A197_1 ((rd_T47 l0_0 x15_1).f1).length c197_1) ∧ w'.cell? ⟨gb198, 2, none⟩ = some (.slice A197_2 ((rd_T47 l0_0 x15_1).f2).length c197_2) ∧ w'.cell? ⟨gb194, 0, none⟩ = some (.slice A1_0 l1_0.length c1_0)) (ds := [17]) (mb 18 0) (by kernel_rfl) rfl (by kernel_rfl) ⟨(blk_cell BK196.out 0).trans rfl, (blk_cell BK198.out 0).trans rfl, (blk_cell BK198.out 1).trans rfl, (blk_cell BK198.out 2).trans rfl, (blk_cell BK194.out 0).trans rfl⟩ (fun hHeld => ?_);refine with_tabW commute_shifted.tab5 commute_shifted.bits5 (fun HT_ HW_ => ?_);generalize w25.drew = w26 at HO_197000 BK193 BK194 BK195 BK196 BK198 HB hHeld ⊢;refine pA 0 19 (mb 18 1) HT_ rfl rfl ?_;refine pA 3 22 (mb 18 9) HT_ rfl rfl ?_;refine pA 5 24 (mb 18 41) HT_ rfl rfl ?_;refine pA 7 26 (mb 18 169) HT_ rfl rfl ?_;refine pA 8 27 (mb 18 425) HT_ rfl rfl ?_;refine tA 1 20 (mb 18 427) HT_ HW_ hHeld rfl rfl (by rintro w' ⟨s0, s1, s2, s3, s4⟩;go_simp;with_reducible rfl) ?_;refine tA 2 21 (mb 18 431) HT_ HW_ hHeld rfl rfl (by rintro w' ⟨s0, s1, s2, s3, s4⟩;go_simp;with_reducible rfl) ?_;refine tA 4 23 (mb 18 447) HT_ HW_ hHeld rfl rfl (by rintro w' ⟨s0, s1, s2, s3, s4⟩;go_simp;with_reducible rfl) ?_;refine tA 6 25 (mb 18 511) HT_ HW_ hHeld rfl rfl (by rintro w' ⟨s0, s1, s2, s3, s4⟩;go_simp;with_reducible rfl) ?_;refine tA 9 28 (mb 18 1023) HT_ HW_ hHeld rfl rfl (by rintro w' ⟨s0, s1, s2, s3, s4⟩;go_simp;with_reducible rfl) ?_;refine one_ (i := 10) (N := some 29) (mb 18 2047) rfl rfl (one_of HT_.out (by kernel_rfl)) (by decide) (fun K hK => ?_);refine goes_ Try.func66 (by kernel_rfl) rfl #[.agg #[.slice A1_0 l1_0.length c1_0], .slice A2 l2.length c2, .int .i64 ((rd_T47 l0_0 x15_1).f0)] (by rfl) rfl rfl mA ?_
              with_reducible refine (commute_growth.calls k1 _ _ l1_0 _ _ l2 ((rd_T47 l0_0 x15_1).f0) t199 _ ?side1 ?side2 ?side3 ?side4 A16.out).mono ?_
              (case side1 => exact cBe HR1_0);(case side2 => exact HC1_0.out);(case side3 => exact cBe HR2);(case side4 => exact HC2.out)
              rintro e w27 ⟨rfl, hb⟩
              refine ⟨_, rfl, ?_⟩;replace HO_197000 := Aside0.mk (Kd.S_below (sK HO_197000) hb);replace BK193 := lJ BK193 hb;replace BK194 := lJ BK194 hb;replace BK195 := lJ BK195 hb;replace BK196 := lJ BK196 hb;replace BK198 := lJ BK198 hb;replace HB := sBe HB hb;(try clear hb);refine hK.out _ _ ⟨(blk_cell BK196.out 0).trans rfl, (blk_cell BK198.out 0).trans rfl, (blk_cell BK198.out 1).trans rfl, (blk_cell BK198.out 2).trans rfl, (blk_cell BK194.out 0).trans rfl⟩ (fun hHeld => ?_);clear hK K;refine nmA (some 29) ?_;refine pA 11 30 (mb 18 4095) HT_ rfl rfl ?_;refine pA 12 31 (mb 18 8191) HT_ rfl rfl ?_;refine one_ (i := 13) (N := some 32) (mb 18 16383) rfl rfl (one_of HT_.out (by kernel_rfl)) (by decide) (fun K hK => ?_);refine goes_ Try.func65 (by kernel_rfl) rfl #[.agg #[.int .i64 ((rd_T47 l0_0 x15_1).f0), .slice A197_1 ((rd_T47 l0_0 x15_1).f1).length c197_1, .slice A197_2 ((rd_T47 l0_0 x15_1).f2).length c197_2], .int .i64 (wrap64 (((rd_T47 l0_0 x15_1).f0) + (wrap64 (a3 * t199))))] (by rfl) rfl rfl mA ?_
              with_reducible refine (textpatch_Moved.calls ((rd_T47 l0_0 x15_1).f0) _ _ ((rd_T47 l0_0 x15_1).f1) _ _ ((rd_T47 l0_0 x15_1).f2) (wrap64 (((rd_T47 l0_0 x15_1).f0) + (wrap64 (a3 * t199)))) t200 t201 t204 _ ?side1 ?side2 ?side3 ?side4 A17.out).mono ?_
              (case side1 => exact cBe HR197_1);(case side2 => exact HC197_1.out);(case side3 => exact cBe HR197_2);(case side4 => exact HC197_2.out)
              rintro e w28 ⟨v202, v205, rfl, ho0, ho1, hb⟩
              refine ⟨_, rfl, ?_⟩;have HO203 := Aside0.mk (Kd.R_lower ho0 (below_size eB));have HO206 := Aside0.mk (Kd.R_lower ho1 (below_size eB));replace HO_197000 := Aside0.mk (Kd.S_mono (Kd.S_told (Kd.S_told (Kd.S_old (sK HO_197000) hb) (Kd.R_base ho0)) (Kd.R_base ho1)) (fun _ h_ => h_.1));replace BK193 := lJ BK193 hb;replace BK194 := lJ BK194 hb;replace BK195 := lJ BK195 hb;replace BK196 := lJ BK196 hb;replace BK198 := lJ BK198 hb;replace HB := sBe HB hb;(try clear hb ho0 ho1);obtain ⟨Ao30, co30, eo30⟩ := Kd.R_slice HO203.out
              (first|subst eo30|(injection eo30 with f1_ f2_ f3_;have f4_ := f1_.symm;have f5_ := f3_.symm;clear f1_ f2_ f3_;subst f4_;subst f5_))
              obtain ⟨Ao31, co31, eo31⟩ := Kd.R_slice HO206.out
              (first|subst eo31|(injection eo31 with f1_ f2_ f3_;have f4_ := f1_.symm;have f5_ := f3_.symm;clear f1_ f2_ f3_;subst f4_;subst f5_))
              refine hK.out _ _ ⟨(blk_cell BK196.out 0).trans rfl, (blk_cell BK198.out 0).trans rfl, (blk_cell BK198.out 1).trans rfl, (blk_cell BK198.out 2).trans rfl, (blk_cell BK194.out 0).trans rfl⟩ (fun hHeld => ?_);clear hK K;refine nmA (some 32) ?_;refine one_ (i := 14) (N := some 33) (mb 18 32767) rfl rfl (one_of HT_.out (by kernel_rfl)) (by decide) (fun K hK => ?_);refine value_ (w1 := ?_) (v := ?_) (by rfl) rfl ?_ ?_;rotate_left 2
              · go_simp
                constructor
                · rfl
                · rfl
              refine hK.out _ _ ⟨(blk_cell (blk_alloc BK196.out _) 0).trans rfl, (blk_cell (blk_alloc BK198.out _) 0).trans rfl, (blk_cell (blk_alloc BK198.out _) 1).trans rfl, (blk_cell (blk_alloc BK198.out _) 2).trans rfl, (blk_cell (blk_alloc BK194.out _) 0).trans rfl⟩ (fun hHeld => ?_);clear hK K;refine nmA (some 33) ?_;refine one_ (i := 15) (N := some 34) (mb 18 65535) rfl rfl (one_of HT_.out (by kernel_rfl)) (by decide) (fun K hK => ?_);refine Kd.S_append_step k47 (w0 := w) w.heap.size (by rfl) (.tmp 20) (.tmp 33) 22 47 (.agg #[(.int .i64 0), (.slice none 0 0), (.slice none 0 0)]) 56 rfl Try.underlying22 info47 rfl (by decide) (by omega) u197000 x197000_1 (⟨t200, t201, t204⟩ : S47) [.int .i64 t200, .slice Ao30 t201.length co30, .slice Ao31 t204.length co31] (fun k_ => k_ ≠ gb198) (fun k_ => some k_ = ob Ao30 t201.length co30 ∨ some k_ = ob Ao31 t204.length co31) rfl rfl ?aP (fun k_ hk_ => hk_.elim (fun h_ => ((Kd.R_mono (ok' := fun k_ => ((fun k_ => k_ ≠ gb198)) k_ ∧ some k_ ≠ (u197000 : Value).ownBlock) (Kd.R_types (Kd.R_apart' (HO203.out) (Kd.S_typed HO_197000.out) (by decide)) BK198.out (by decide)) (fun k_ hk => ⟨hk.2, hk.1.2⟩))).1 k_ h_.symm) (fun h_ => ((Kd.R_mono (ok' := fun k_ => ((fun k_ => k_ ≠ gb198)) k_ ∧ some k_ ≠ (u197000 : Value).ownBlock) (Kd.R_types (Kd.R_apart' (HO206.out) (Kd.S_typed HO_197000.out) (by decide)) BK198.out (by decide)) (fun k_ hk => ⟨hk.2, hk.1.2⟩))).1 k_ h_.symm)) ?aF ?aO ?aB ?aS ?aL ?_;(case aP => exact k47_mkM _ _ _ (⟨t200, t201, t204⟩ : S47) (Kd.R_mono (Kd.R_tight rfl (Kd.R_mono (ok' := fun k_ => ((fun k_ => k_ ≠ gb198)) k_ ∧ some k_ ≠ (u197000 : Value).ownBlock) (Kd.R_types (Kd.R_apart' (HO203.out) (Kd.S_typed HO_197000.out) (by decide)) BK198.out (by decide)) (fun k_ hk => ⟨hk.2, hk.1.2⟩))) (fun _ h_ => Or.inl h_)) (Kd.R_mono (Kd.R_tight rfl (Kd.R_mono (ok' := fun k_ => ((fun k_ => k_ ≠ gb198)) k_ ∧ some k_ ≠ (u197000 : Value).ownBlock) (Kd.R_types (Kd.R_apart' (HO206.out) (Kd.S_typed HO_197000.out) (by decide)) BK198.out (by decide)) (fun k_ hk => ⟨hk.2, hk.1.2⟩))) (fun _ h_ => Or.inr (h_))));(case aB => exact eB);(case aF => exact (fun k_ hk => Kd.freshB (g := gb198) (o := .cells #[.int .i64 ((rd_T47 l0_0 x15_1).f0), .slice A197_1 ((rd_T47 l0_0 x15_1).f1).length c197_1, .slice A197_2 ((rd_T47 l0_0 x15_1).f2).length c197_2] 47 (0, 0)) kK k_ hk));(case aO => exact (sM HO_197000 (fun k_ hk => ⟨hk.1.1, fun e_ => e_.elim (fun h_ => hk.1.2 h_) (fun h_ => hk.2 h_)⟩)));(case aS => exact (below_size eB));(case aL => have := LMc18.out;omega)
              intro v208 w29 ho hb hg hat
              rw [← Ny207.out] at ho;have n0_ := Aside0.mk (blk_grown (g := gb193) (o := .cells #[.slice (some ad197) l0_0.length c0_0] 24 (0, 0)) kK hg (Kd.S_ne HO_197000.out BK193.out (by decide)));have n1_ := Aside0.mk (blk_grown (g := gb194) (o := .cells #[.slice A1_0 l1_0.length c1_0] 24 (0, 0)) kK hg (Kd.S_ne HO_197000.out BK194.out (by decide)));have n2_ := Aside0.mk (blk_grown (g := gb195) (o := .cells #[.slice none 0 0] 24 (0, 0)) kK hg (Kd.S_ne HO_197000.out BK195.out (by decide)));have n3_ := Aside0.mk (blk_grown (g := gb196) (o := .cells #[u197000] 24 (0, 0)) kK hg (Kd.S_ne HO_197000.out BK196.out (by decide)));have n4_ := Aside0.mk (blk_grown (g := gb198) (o := .cells #[.int .i64 ((rd_T47 l0_0 x15_1).f0), .slice A197_1 ((rd_T47 l0_0 x15_1).f1).length c197_1, .slice A197_2 ((rd_T47 l0_0 x15_1).f2).length c197_2] 47 (0, 0)) kK hg (Kd.S_away HO_197000.out (fun _ hk => hk.1.1)));have n5_ := Aside0.mk (hb);have n6_ := Aside0.mk (ho);clear BK193;clear BK194;clear BK195;clear BK196;clear BK198;clear HB;clear HO_197000;clear HO203;clear HO206;have BK193 := n0_;have BK194 := n1_;have BK195 := n2_;have BK196 := n3_;have BK198 := n4_;have HB := n5_;have HO209 := n6_;clear n0_ n1_ n2_ n3_ n4_ n5_ n6_;clear ho hb hg hat;obtain ⟨Ao32, co32, eo32⟩ := Kd.S_slice HO209.out
              (first|subst eo32|(injection eo32 with f1_ f2_ f3_;have f4_ := f1_.symm;have f5_ := f3_.symm;clear f1_ f2_ f3_;subst f4_;subst f5_))
              refine hK.out _ _ ⟨(blk_cell BK196.out 0).trans rfl, (blk_cell BK198.out 0).trans rfl, (blk_cell BK198.out 1).trans rfl, (blk_cell BK198.out 2).trans rfl, (blk_cell BK194.out 0).trans rfl⟩ (fun hHeld => ?_);clear hK K;refine nmA (some 34) ?_;refine pA 16 35 (mb 18 131071) HT_ rfl rfl ?_;refine last_ (i := 17) (N := none) (mb 18 262143) rfl rfl (one_of HT_.out (by kernel_rfl)) (by decide) (fun K hK => ?_);have hs33 : w29.cell? ⟨gb196, 0, none⟩ = some (u197000) := (blk_cell BK196.out 0).trans rfl;have hfs33 := blk_frozen BK196.out 0;have := NB193_196.out;have := NB194_196.out;have := NB195_196.out;have := NB198_196.out;have := NB196_193.out;have := NB196_194.out;have := NB196_195.out;have := NB196_198.out;refine skip_ (w1 := ?_) (by rfl) rfl ?_ ?_;rotate_left
              · go_simp
                rfl
              refine hK.out _ _ ?_;clear hK K;refine done_ (done_of HT_.out (by kernel_rfl)) ?_
              try go_wp2
              go_roundg k1
              case measure => have := HK1.out;omega
              case rel => exact ⟨(wrap64 (x15_1 + 1)), (y207), (.slice Ao32 y207.length co32), (by first|rfl|(simp only [i64_w, i32_w];done)|(simp only [i64_w, i32_w];rfl)|(simp;done)|(simp [*];done)), H', ⟨by have := HK1.out;omega⟩, ⟨by (with_reducible repeat (first|apply Kd.S_alloc|apply Kd.S_drewN|apply Kd.S_drew));exact Kd.S_mono (Kd.S_far (p := ⟨gb196, 0, none⟩) (Kd.S_types HO209.out BK196.out (by decide)) (fun _ hk => hk.2) (.slice Ao32 y207.length co32)) (fun _ hk => trivial)⟩, ⟨kK⟩, ⟨kK⟩, ⟨kK⟩, ⟨kK⟩, ⟨eB⟩⟩
            · rw [if_neg c18] at H;exact absurd H (by simp)
          · rw [if_neg c15] at H;exact absurd H (by simp)
        · rw [if_neg c14] at H;exact absurd H (by simp)
      · rw [if_neg c13] at H;have c13b0 : decide (x15_1 < (l0_0.length : Int)) = false := decide_eq_false c13;clear c13;obtain rfl := Option.some.inj H;have hnb34 := eq_false NB196_193.out;have hnc34 := eq_false NB193_196.out;have hnb35 := eq_false NB196_194.out;have hnc35 := eq_false NB194_196.out;have hnb36 := eq_false NB196_195.out;have hnc36 := eq_false NB195_196.out;have hcz37_0 : wr.cell? ⟨gb196, 0, none⟩ = some (u197000) := (blk_cell BK196.out 0).trans rfl;have hfz37_0 := blk_frozen BK196.out 0;obtain ⟨Ao38, co38, eo38⟩ := Kd.S_slice HO_197000.out;subst eo38;have hnb39 := eq_false NB195_193.out;have hnc39 := eq_false NB193_195.out;have hnb40 := eq_false NB195_194.out;have hnc40 := eq_false NB194_195.out;have hcz41_0 : wr.cell? ⟨gb195, 0, none⟩ = some (.slice none 0 0) := (blk_cell BK195.out 0).trans rfl;have hfz41_0 := blk_frozen BK195.out 0
        go_wp2
        refine bodyPost_ret (results_cell_row rfl _ _ gb195 24 #[.slice Ao38 x197000_1.length co38] (0, 0) _ rfl kK Try.underlying24 rfl (by kernel_rfl)) rfl ?_;exact ⟨_, rW, by (with_reducible repeat (first|apply Kd.S_alloc|apply Kd.S_drewN|apply Kd.S_drew));exact Kd.S_mono (Kd.S_far (p := ⟨gb195, 0, none⟩) (Kd.S_types HO_197000.out BK195.out (by decide)) (fun _ hk => hk.2) (.slice Ao38 x197000_1.length co38)) (fun _ hk => trivial), eB⟩

end Go.Proofs.Ytdnnkhogpobjbaa.PU
