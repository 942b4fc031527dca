/- Printed by a program of this session out of the translation: Lean functions for Go functions, and proofs that the Go functions answer the same. -/
import Derived.Test.YtifkadmljokffaaPB0
import Derived.Test.YtifkadmljokffaaPB1
import Derived.Test.YtifkadmljokffaaPB2
import Derived.Test.YtifkadmljokffaaPB3
import Derived.Test.YtifkadmljokffaaPB4
import Derived.Test.YtifkadmljokffaaPB5
import Derived.Test.YtifkadmljokffaaPB6
namespace Go.Proofs.Ytifkadmljokffaa.PB
open Go.RowKit Go.Proofs.Ytifkadmljokffaa.Pre Go.Proofs.YtifkadmljokffaaW.PrintWords Go.Proofs.YtifkadmljokffaaW.PrintLast Go.Proofs.YtifkadmljokffaaW.PrintMore
attribute [local go_sem] max2_int min2_int max_two min_two max_three min_three max_four min_four   -- for this text's walks alone
set_option linter.unusedVariables false
set_option linter.unusedSimpArgs false

attribute [local go_sem high] eqA24
/-! ### changeforgeref1_Align: function 52 -/
mutual
def changeforgeref1_Align.l0 : Nat → List ByteArray → List ByteArray → List (List Int) → List (S79) → Int → Int → Option ((List (S79)))
  | 0, _, _, _, _, _, _ => none
  | k + 1, x0, x1, x5, x6, x7, x8 => if x7 < (x0.length : Int) then (changeforgeref1_Align.j1 k x0 x1 x5 x6 x7 x8 true) else (changeforgeref1_Align.j1 k x0 x1 x5 x6 x7 x8 (decide (x8 < (x1.length : Int))))
def changeforgeref1_Align.j1 : Nat → List ByteArray → List ByteArray → List (List Int) → List (S79) → Int → Int → Bool → Option ((List (S79)))
  | 0, _, _, _, _, _, _, _ => none
  | k + 1, x0, x1, x5, x6, x7, x8, x21 => if x21 = true then (if x7 < (x0.length : Int) then (if x8 < (x1.length : Int) then (if 0 ≤ x7 then (if 0 ≤ x8 then (changeforgeref1_Align.j2 k x0 x1 x5 x6 x7 x8 ((rdOf ByteArray.empty x0 x7).toList == (rdOf ByteArray.empty x1 x8).toList)) else (none)) else (none)) else (changeforgeref1_Align.j2 k x0 x1 x5 x6 x7 x8 false)) else (changeforgeref1_Align.j2 k x0 x1 x5 x6 x7 x8 false)) else (some x6)
def changeforgeref1_Align.j2 : Nat → List ByteArray → List ByteArray → List (List Int) → List (S79) → Int → Int → Bool → Option ((List (S79)))
  | 0, _, _, _, _, _, _, _ => none
  | k + 1, x0, x1, x5, x6, x7, x8, x42 => if x42 = true then (if 0 ≤ x7 then (if x7 < (x0.length : Int) then (if x6.length < 5864062014805 then (changeforgeref1_Align.l0 k x0 x1 x5 (x6 ++ [(⟨0, rdOf ByteArray.empty x0 x7⟩ : S79)]) (wrap64 (x7 + 1)) (wrap64 (x8 + 1))) else (none)) else (none)) else (none)) else (if x8 = (x1.length : Int) then (if 0 ≤ x7 then (if x7 < (x0.length : Int) then (if x6.length < 5864062014805 then (changeforgeref1_Align.l0 k x0 x1 x5 (x6 ++ [(⟨1, rdOf ByteArray.empty x0 x7⟩ : S79)]) (wrap64 (x7 + 1)) x8) else (none)) else (none)) else (none)) else (if x7 < (x0.length : Int) then (if 0 ≤ x8 then (if x8 < (x5.length : Int) then (if 0 ≤ (wrap64 (x7 + 1)) then (if (wrap64 (x7 + 1)) < ((rd_L2 x5 x8).length : Int) then (if 0 ≤ (wrap64 (x8 + 1)) then (if (wrap64 (x8 + 1)) < (x5.length : Int) then (if 0 ≤ x7 then (if x7 < ((rd_L2 x5 (wrap64 (x8 + 1))).length : Int) then (if (rd (rd_L2 x5 x8) (wrap64 (x7 + 1))) ≥ (rd (rd_L2 x5 (wrap64 (x8 + 1))) x7) then (if x6.length < 5864062014805 then (changeforgeref1_Align.l0 k x0 x1 x5 (x6 ++ [(⟨1, rdOf ByteArray.empty x0 x7⟩ : S79)]) (wrap64 (x7 + 1)) x8) else (none)) else (if x8 < (x1.length : Int) then (if x6.length < 5864062014805 then (changeforgeref1_Align.l0 k x0 x1 x5 (x6 ++ [(⟨2, rdOf ByteArray.empty x1 x8⟩ : S79)]) x7 (wrap64 (x8 + 1))) else (none)) else (none))) else (none)) else (none)) else (none)) else (none)) else (none)) else (none)) else (none)) else (none)) else (if 0 ≤ x8 then (if x8 < (x1.length : Int) then (if x6.length < 5864062014805 then (changeforgeref1_Align.l0 k x0 x1 x5 (x6 ++ [(⟨2, rdOf ByteArray.empty x1 x8⟩ : S79)]) x7 (wrap64 (x8 + 1))) else (none)) else (none)) else (none))))
end
def changeforgeref1_Align.f (k : Nat) (l0 : List ByteArray) (l1 : List ByteArray) : Option ((List (S79))) := (changeforgeref1_suffixes.f l0 l1).bind fun t168 => (changeforgeref1_Align.l0 k l0 l1 t168 ([] : List (S79)) 0 0)
theorem changeforgeref1_Align.mono_l : ∀ k, (∀ y0 y1 y2 y3 y4 y5, LeO (changeforgeref1_Align.l0 k y0 y1 y2 y3 y4 y5) (changeforgeref1_Align.l0 (k + 1) y0 y1 y2 y3 y4 y5)) ∧ (∀ y0 y1 y2 y3 y4 y5 y6, LeO (changeforgeref1_Align.j1 k y0 y1 y2 y3 y4 y5 y6) (changeforgeref1_Align.j1 (k + 1) y0 y1 y2 y3 y4 y5 y6)) ∧ (∀ y0 y1 y2 y3 y4 y5 y6, LeO (changeforgeref1_Align.j2 k y0 y1 y2 y3 y4 y5 y6) (changeforgeref1_Align.j2 (k + 1) y0 y1 y2 y3 y4 y5 y6))
  | 0 => ⟨fun _ _ _ _ _ _ r h => by simp [changeforgeref1_Align.l0] at h, fun _ _ _ _ _ _ _ r h => by simp [changeforgeref1_Align.j1] at h, fun _ _ _ _ _ _ _ r h => by simp [changeforgeref1_Align.j2] at h⟩
  | k + 1 => by
    obtain ⟨ih0, ih1, ih2⟩ := changeforgeref1_Align.mono_l k;refine ⟨?_, ?_, ?_⟩
    · intro y0 y1 y2 y3 y4 y5
      unfold changeforgeref1_Align.l0
      repeat' first
      | (with_reducible exact ih0 _ _ _ _ _ _)
      | (with_reducible exact ih1 _ _ _ _ _ _ _)
      | (with_reducible exact ih2 _ _ _ _ _ _ _)
      | (with_reducible exact LeO.refl _)
      | (with_reducible exact LeO.none _)
      | (with_reducible refine LeO.ite ?_ ?_)
      | (with_reducible refine LeO.bind ?_ (fun _ => ?_))
      | exact ih0 _ _ _ _ _ _
      | exact ih1 _ _ _ _ _ _ _
      | exact ih2 _ _ _ _ _ _ _
      | exact LeO.none _
      | refine LeO.ite ?_ ?_
      | refine LeO.bind ?_ (fun _ => ?_)
    · intro y0 y1 y2 y3 y4 y5 y6
      unfold changeforgeref1_Align.j1
      repeat' first
      | (with_reducible exact ih0 _ _ _ _ _ _)
      | (with_reducible exact ih1 _ _ _ _ _ _ _)
      | (with_reducible exact ih2 _ _ _ _ _ _ _)
      | (with_reducible exact LeO.refl _)
      | (with_reducible exact LeO.none _)
      | (with_reducible refine LeO.ite ?_ ?_)
      | (with_reducible refine LeO.bind ?_ (fun _ => ?_))
      | exact ih0 _ _ _ _ _ _
      | exact ih1 _ _ _ _ _ _ _
      | exact ih2 _ _ _ _ _ _ _
      | exact LeO.none _
      | refine LeO.ite ?_ ?_
      | refine LeO.bind ?_ (fun _ => ?_)
    · intro y0 y1 y2 y3 y4 y5 y6
      unfold changeforgeref1_Align.j2
      repeat' first
      | (with_reducible exact ih0 _ _ _ _ _ _)
      | (with_reducible exact ih1 _ _ _ _ _ _ _)
      | (with_reducible exact ih2 _ _ _ _ _ _ _)
      | (with_reducible exact LeO.refl _)
      | (with_reducible exact LeO.none _)
      | (with_reducible refine LeO.ite ?_ ?_)
      | (with_reducible refine LeO.bind ?_ (fun _ => ?_))
      | exact ih0 _ _ _ _ _ _
      | exact ih1 _ _ _ _ _ _ _
      | exact ih2 _ _ _ _ _ _ _
      | exact LeO.none _
      | refine LeO.ite ?_ ?_
      | refine LeO.bind ?_ (fun _ => ?_)
theorem changeforgeref1_Align.mono : ∀ a0 a1 k, LeO (changeforgeref1_Align.f k a0 a1) (changeforgeref1_Align.f (k + 1) a0 a1) := by
  intro a0 a1 k
  obtain ⟨ih0, ih1, ih2⟩ := changeforgeref1_Align.mono_l k
  unfold changeforgeref1_Align.f
  repeat' first
      | (with_reducible exact ih0 _ _ _ _ _ _)
      | (with_reducible exact ih1 _ _ _ _ _ _ _)
      | (with_reducible exact ih2 _ _ _ _ _ _ _)
      | (with_reducible exact LeO.refl _)
      | (with_reducible exact LeO.none _)
      | (with_reducible refine LeO.ite ?_ ?_)
      | (with_reducible refine LeO.bind ?_ (fun _ => ?_))
      | exact ih0 _ _ _ _ _ _
      | exact ih1 _ _ _ _ _ _ _
      | exact ih2 _ _ _ _ _ _ _
      | exact LeO.none _
      | refine LeO.ite ?_ ?_
      | refine LeO.bind ?_ (fun _ => ?_)
set_option maxHeartbeats 8000000 in
set_option maxRecDepth 100000 in
theorem changeforgeref1_Align.calls (k : Nat) (A0 : Option Addr) (c0 : Nat) (l0 : List ByteArray) (A1 : Option Addr) (c1 : Nat) (l1 : List ByteArray) (r : List (S79)) (w : World) (hr0 : Kd.C Kd.string w A0 l0.length l0) (hc0 : l0.length ≤ c0) (hr1 : Kd.C Kd.string w A1 l1.length l1) (hc1 : l1.length ≤ c1) (h : changeforgeref1_Align.f k l0 l1 = some r) :
    Calls Try.prog 52 #[.slice A0 l0.length c0, .slice A1 l1.length c1] w fun e w' => ∃ v0_ : Value, e = .returned (v0_) ∧ Kd.R k79 79 w' w.heap.size (fun _ => True) v0_ r ∧ Below w.heap.size w w' := by
  have hu79 := Try.underlying79;have HR0 := Aside0.mk hr0;have HC0 := Aside0.mk hc0;clear hr0 hc0;have HR1 := Aside0.mk hr1;have HC1 := Aside0.mk hc1;clear hr1 hc1;have HB := Aside0.mk (Below.refl w.heap.size w);have H : ((changeforgeref1_suffixes.f l0 l1).bind fun t168 => (changeforgeref1_Align.l0 k l0 l1 t168 ([] : List (S79)) 0 0)) = some r := h;clear h;replace H := Option.bind_eq_some_iff.mp H;obtain ⟨t168, A30, H⟩ := H;replace H : (changeforgeref1_Align.l0 k l0 l1 t168 ([] : List (S79)) 0 0) = some r := H;have A3 := Aside0.mk A30;clear A30;have H' := Aside0.mk H;clear H
  go_enter Try.func52, Try.ntmps52
  go_wp2_with (first|(go_at_call 50;(with_reducible refine (changeforgeref1_suffixes.calls _ _ l0 _ _ l1 t168 _ ?side1 ?side2 ?side3 ?side4 A3.out).mono ?_);(case side1 => repeat (first|exact HR0.out|(with_reducible refine Kd.C_alloc ?_ _)|(with_reducible refine Kd.C_drewN ?_ _)|(with_reducible refine Kd.C_drew ?_)));(case side2 => exact HC0.out);(case side3 => repeat (first|exact HR1.out|(with_reducible refine Kd.C_alloc ?_ _)|(with_reducible refine Kd.C_drewN ?_ _)|(with_reducible refine Kd.C_drew ?_)));(case side4 => exact HC1.out);rintro e w4 ⟨v169, rfl, ho0, hb⟩;have HO170 := Aside0.mk (Kd.S_lower ho0 (below_size eB));replace HB := sBe HB hb;(try clear hb ho0)))
  repeat (go_quiet (first|(go_at_call 50;(with_reducible refine (changeforgeref1_suffixes.calls _ _ l0 _ _ l1 t168 _ ?side1 ?side2 ?side3 ?side4 A3.out).mono ?_);(case side1 => repeat (first|exact HR0.out|(with_reducible refine Kd.C_alloc ?_ _)|(with_reducible refine Kd.C_drewN ?_ _)|(with_reducible refine Kd.C_drew ?_)));(case side2 => exact HC0.out);(case side3 => repeat (first|exact HR1.out|(with_reducible refine Kd.C_alloc ?_ _)|(with_reducible refine Kd.C_drewN ?_ _)|(with_reducible refine Kd.C_drew ?_)));(case side4 => exact HC1.out);rintro e w4 ⟨v169, rfl, ho0, hb⟩;have HO170 := Aside0.mk (Kd.S_lower ho0 (below_size eB));replace HB := sBe HB hb;(try clear hb ho0)));try go_wp2_with (first|(go_at_call 50;(with_reducible refine (changeforgeref1_suffixes.calls _ _ l0 _ _ l1 t168 _ ?side1 ?side2 ?side3 ?side4 A3.out).mono ?_);(case side1 => repeat (first|exact HR0.out|(with_reducible refine Kd.C_alloc ?_ _)|(with_reducible refine Kd.C_drewN ?_ _)|(with_reducible refine Kd.C_drew ?_)));(case side2 => exact HC0.out);(case side3 => repeat (first|exact HR1.out|(with_reducible refine Kd.C_alloc ?_ _)|(with_reducible refine Kd.C_drewN ?_ _)|(with_reducible refine Kd.C_drew ?_)));(case side4 => exact HC1.out);rintro e w4 ⟨v169, rfl, ho0, hb⟩;have HO170 := Aside0.mk (Kd.S_lower ho0 (below_size eB));replace HB := sBe HB hb;(try clear hb ho0))))
  go_loopg [6, 7, 8] k (fun kq v6 v7 v8 w' => ∃ (x6_1 : List (S79)) (x7_1 : Int) (x8_1 : Int), v7 = .int .i64 x7_1 ∧ v8 = .int .i64 x8_1 ∧ Aside0 (changeforgeref1_Align.l0 kq l0 l1 t168 x6_1 x7_1 x8_1 = some r) ∧ Aside0 (kq ≤ k) ∧ Aside0 (Kd.S (Kd.slice 3 (Kd.int .i64)) 63 w' w.heap.size (fun _ => True) v169 t168) ∧ Aside0 (Kd.R k79 79 w' w.heap.size (fun _ => True) v6 x6_1) ∧ Aside0 (Below w.heap.size w w'))
  case atStart => exact ⟨(([] : List (S79))), (0), (0), (by first|rfl|(simp only [i64_w, i32_w];done)|(simp only [i64_w, i32_w];rfl)|(simp;done)|(simp [*];done)), (by first|rfl|(simp only [i64_w, i32_w];done)|(simp only [i64_w, i32_w];rfl)|(simp;done)|(simp [*];done)), H', ⟨Nat.le_refl _⟩, ⟨by (with_reducible repeat (first|apply Kd.S_alloc|apply Kd.S_drewN|apply Kd.S_drew));exact HO170.out⟩, ⟨by first|exact Kd.R_nil _ _ _ _ _|exact Kd.N_nil _ _ _ _ _|exact Kd.V_nil _ _ _ _ _|exact Kd.Q_nil _ _ _ _ _|exact Kd.S_nil _ _ _ _ _⟩, ⟨eB⟩⟩
  case round =>
    clear H'
    try clear c1
    try clear p2
    obtain ⟨x6_1, x7_1, x8_1, rfl, rfl, HA, HK1, HO_5, HO_6, HB⟩ := hrel
    cases gk with
    | zero => exact absurd HA.out (by simp [changeforgeref1_Align.l0])
    | succ k1 =>
      have H := HA.out;clear HA;simp only [changeforgeref1_Align.l0] at H;have HC5 := Aside0.mk H;clear H
      go_upto_region 5 with (fail)
      repeat (go_quiet (fail);go_upto_region 5 with (fail))
      go_cut [21] (fun v21 wc => ∃ (kq : Nat) (x21_4 : Bool), v21 = .bool x21_4 ∧ Aside0 (changeforgeref1_Align.j1 kq l0 l1 t168 x6_1 x7_1 x8_1 x21_4 = some r) ∧ Aside0 (kq ≤ k1) ∧ Aside0 (Kd.S (Kd.slice 3 (Kd.int .i64)) 63 wc w.heap.size (fun _ => True) v169 t168) ∧ Aside0 (Kd.R k79 79 wc w.heap.size (fun _ => True) u6 x6_1) ∧ Aside0 (Below w.heap.size w wc))
      case first =>
        have H := HC5.out;clear HC5
        by_cases c6 : x7_1 < (l0.length : Int)
        · rw [if_pos c6] at H;have c6b0 : decide (x7_1 < (l0.length : Int)) = true := decide_eq_true c6;clear c6
          (first|rw [c6b0]|(simp only [i64_w, i32_w];rw [c6b0])|skip)
          have H' := Aside0.mk H;clear H
          go_wp2
          repeat (go_quiet (fail);try go_wp2)
          go_meet
          case rel => exact ⟨_, (true), (by first|rfl|(simp only [i64_w, i32_w];done)|(simp only [i64_w, i32_w];rfl)|(simp;done)|(simp [*];done)), H', ⟨by have := HK1.out;first|omega|exact Nat.le_refl _⟩, ⟨by (with_reducible repeat (first|apply Kd.S_alloc|apply Kd.S_drewN|apply Kd.S_drew));exact HO_5.out⟩, ⟨by (with_reducible repeat first|apply rA|apply rN|apply rD);exact HO_6.out⟩, ⟨eB⟩⟩
        · rw [if_neg c6] at H;have c6b0 : decide (x7_1 < (l0.length : Int)) = false := decide_eq_false c6;clear c6
          (first|rw [c6b0]|(simp only [i64_w, i32_w];rw [c6b0])|skip)
          have H' := Aside0.mk H;clear H
          go_wp2
          repeat (go_quiet (fail);try go_wp2)
          go_meet
          case rel => exact ⟨_, (decide (x8_1 < (l1.length : Int))), (by first|rfl|(simp only [i64_w, i32_w];done)|(simp only [i64_w, i32_w];rfl)|(simp;done)|(simp [*];done)), H', ⟨by have := HK1.out;first|omega|exact Nat.le_refl _⟩, ⟨by (with_reducible repeat (first|apply Kd.S_alloc|apply Kd.S_drewN|apply Kd.S_drew));exact HO_5.out⟩, ⟨by (with_reducible repeat first|apply rA|apply rN|apply rD);exact HO_6.out⟩, ⟨eB⟩⟩
      case rest =>
        clear HC5
        try clear c1
        try clear p2
        try clear c5
        try clear c6
        try clear c6b0
        try clear p2
        obtain ⟨kq, x21_4, rfl, HA, HJ4, HO_5, HO_6, HB⟩ := hcut
        cases kq with
        | zero => exact absurd HA.out (by simp [changeforgeref1_Align.j1])
        | succ kj4 =>
          have H := HA.out;clear HA;simp only [changeforgeref1_Align.j1] at H
          by_cases c7 : x21_4 = true
          · subst c7;have H1 : (if x7_1 < (l0.length : Int) then (if x8_1 < (l1.length : Int) then (if 0 ≤ x7_1 then (if 0 ≤ x8_1 then (changeforgeref1_Align.j2 kj4 l0 l1 t168 x6_1 x7_1 x8_1 ((rdOf ByteArray.empty l0 x7_1).toList == (rdOf ByteArray.empty l1 x8_1).toList)) else (none)) else (none)) else (changeforgeref1_Align.j2 kj4 l0 l1 t168 x6_1 x7_1 x8_1 false)) else (changeforgeref1_Align.j2 kj4 l0 l1 t168 x6_1 x7_1 x8_1 false)) = some r := (by rw [if_pos rfl] at H;exact H);clear H;have H := H1;clear H1;have HC8 := Aside0.mk H;clear H
            go_upto_region 6 with (fail)
            repeat (go_quiet (fail);go_upto_region 6 with (fail))
            go_cut [42] (fun v42 wc => ∃ (kq : Nat) (x42_7 : Bool), v42 = .bool x42_7 ∧ Aside0 (changeforgeref1_Align.j2 kq l0 l1 t168 x6_1 x7_1 x8_1 x42_7 = some r) ∧ Aside0 (kq ≤ kj4) ∧ Aside0 (Kd.S (Kd.slice 3 (Kd.int .i64)) 63 wc w.heap.size (fun _ => True) v169 t168) ∧ Aside0 (Kd.R k79 79 wc w.heap.size (fun _ => True) u6 x6_1) ∧ Aside0 (Below w.heap.size w wc))
            case first =>
              have H := HC8.out;clear HC8
              by_cases c9 : x7_1 < (l0.length : Int)
              · rw [if_pos c9] at H;have c9b0 : decide (x7_1 < (l0.length : Int)) = true := decide_eq_true c9;clear c9
                (first|rw [c9b0]|(simp only [i64_w, i32_w];rw [c9b0])|skip)
                by_cases c10 : x8_1 < (l1.length : Int)
                · rw [if_pos c10] at H;have c10b0 : decide (x8_1 < (l1.length : Int)) = true := decide_eq_true c10;clear c10
                  by_cases c11 : 0 ≤ x7_1
                  · rw [if_pos c11] at H;have c11b0 : decide (0 ≤ x7_1) = true := decide_eq_true c11;clear c11
                    by_cases c12 : 0 ≤ x8_1
                    · rw [if_pos c12] at H;have c12b0 : decide (0 ≤ x8_1) = true := decide_eq_true c12;clear c12;have H' := Aside0.mk H;clear H;have p171 : 0 ≤ (x7_1 : Int) := dA;have q171 : x7_1 < (l0.length : Int) := dA;obtain ⟨ad171, e171, hx171_0⟩ := Kd.at_string HR0.out x7_1 p171 q171
                      cases e171
                      replace hx171_0 := (hX HB hx171_0:);replace p171 := eq_true p171;replace q171 := eq_true q171;have p172 : 0 ≤ (x8_1 : Int) := dA;have q172 : x8_1 < (l1.length : Int) := dA;obtain ⟨ad172, e172, hx172_0⟩ := Kd.at_string HR1.out x8_1 p172 q172
                      cases e172
                      replace hx172_0 := (hX HB hx172_0:);replace p172 := eq_true p172;replace q172 := eq_true q172
                      go_wp2
                      repeat (go_quiet (fail);try go_wp2)
                      go_meet
                      case rel => exact ⟨_, (((rdOf ByteArray.empty l0 x7_1).toList == (rdOf ByteArray.empty l1 x8_1).toList)), (by first|rfl|(simp only [i64_w, i32_w];done)|(simp only [i64_w, i32_w];rfl)|(simp;done)|(simp [*];done)), H', ⟨by have := HK1.out;have := HJ4.out;first|omega|exact Nat.le_refl _⟩, ⟨by (with_reducible repeat (first|apply Kd.S_alloc|apply Kd.S_drewN|apply Kd.S_drew));exact HO_5.out⟩, ⟨by (with_reducible repeat first|apply rA|apply rN|apply rD);exact HO_6.out⟩, ⟨eB⟩⟩
                    · rw [if_neg c12] at H;exact absurd H (by simp)
                  · rw [if_neg c11] at H;exact absurd H (by simp)
                · rw [if_neg c10] at H;have c10b0 : decide (x8_1 < (l1.length : Int)) = false := decide_eq_false c10;clear c10;have H' := Aside0.mk H;clear H
                  go_wp2
                  repeat (go_quiet (fail);try go_wp2)
                  go_meet
                  case rel => exact ⟨_, (false), (by first|rfl|(simp only [i64_w, i32_w];done)|(simp only [i64_w, i32_w];rfl)|(simp;done)|(simp [*];done)), H', ⟨by have := HK1.out;have := HJ4.out;first|omega|exact Nat.le_refl _⟩, ⟨by (with_reducible repeat (first|apply Kd.S_alloc|apply Kd.S_drewN|apply Kd.S_drew));exact HO_5.out⟩, ⟨by (with_reducible repeat first|apply rA|apply rN|apply rD);exact HO_6.out⟩, ⟨eB⟩⟩
              · rw [if_neg c9] at H;have c9b0 : decide (x7_1 < (l0.length : Int)) = false := decide_eq_false c9;clear c9
                (first|rw [c9b0]|(simp only [i64_w, i32_w];rw [c9b0])|skip)
                have H' := Aside0.mk H;clear H
                go_wp2
                repeat (go_quiet (fail);try go_wp2)
                go_meet
                case rel => exact ⟨_, (false), (by first|rfl|(simp only [i64_w, i32_w];done)|(simp only [i64_w, i32_w];rfl)|(simp;done)|(simp [*];done)), H', ⟨by have := HK1.out;have := HJ4.out;first|omega|exact Nat.le_refl _⟩, ⟨by (with_reducible repeat (first|apply Kd.S_alloc|apply Kd.S_drewN|apply Kd.S_drew));exact HO_5.out⟩, ⟨by (with_reducible repeat first|apply rA|apply rN|apply rD);exact HO_6.out⟩, ⟨eB⟩⟩
            case rest =>
              clear HC8
              try clear c1
              try clear p1
              try clear q1
              try clear hx1
              try clear p2
              try clear c5
              try clear c6
              try clear c6b0
              try clear c7
              try clear c9
              try clear c9b0
              try clear c10
              try clear c10b0
              try clear c11
              try clear c11b0
              try clear c12
              try clear c12b0
              try clear hx171_0
              try clear hx172_0
              try clear p171
              try clear p172
              try clear p2
              try clear q171
              try clear q172
              obtain ⟨kq, x42_7, rfl, HA, HJ7, HO_5, HO_6, HB⟩ := hcut
              cases kq with
              | zero => exact absurd HA.out (by simp [changeforgeref1_Align.j2])
              | succ kj7 =>
                have H := HA.out;clear HA;simp only [changeforgeref1_Align.j2] at H
                by_cases c13 : x42_7 = true
                · subst c13;have H1 : (if 0 ≤ x7_1 then (if x7_1 < (l0.length : Int) then (if x6_1.length < 5864062014805 then (changeforgeref1_Align.l0 kj7 l0 l1 t168 (x6_1 ++ [(⟨0, rdOf ByteArray.empty l0 x7_1⟩ : S79)]) (wrap64 (x7_1 + 1)) (wrap64 (x8_1 + 1))) else (none)) else (none)) else (none)) = some r := (by rw [if_pos rfl] at H;exact H);clear H;have H := H1;clear H1
                  by_cases c14 : 0 ≤ x7_1
                  · rw [if_pos c14] at H;have c14b0 : decide (0 ≤ x7_1) = true := decide_eq_true c14;clear c14
                    by_cases c15 : x7_1 < (l0.length : Int)
                    · rw [if_pos c15] at H;have c15b0 : decide (x7_1 < (l0.length : Int)) = true := decide_eq_true c15;clear c15
                      by_cases c16 : x6_1.length < 5864062014805
                      · rw [if_pos c16] at H;have LMc16 := Aside0.mk c16;clear c16;obtain ⟨y174, hy174⟩ : ∃ y_ : List (S79), y_ = (x6_1 ++ [(⟨0, rdOf ByteArray.empty l0 x7_1⟩ : S79)]) := ⟨_, rfl⟩;replace H : (changeforgeref1_Align.l0 kj7 l0 l1 t168 y174 (wrap64 (x7_1 + 1)) (wrap64 (x8_1 + 1))) = some r := (by first|(rw [hy174];with_reducible exact H)|(have H2_ := (Option.bind_some _ _).symm.trans H;rw [hy174];with_reducible exact H2_)|(have H2_ := (Option.bind_some _ _).symm.trans H;with_reducible exact H2_)|with_reducible exact H|(rw [hy174];exact H)|exact H);have Ny174 := Aside0.mk hy174;clear hy174;have H' := Aside0.mk H;clear H;have p173 : 0 ≤ (x7_1 : Int) := dA;have q173 : x7_1 < (l0.length : Int) := dA;obtain ⟨ad173, e173, hx173_0⟩ := Kd.at_string HR0.out x7_1 p173 q173
                        cases e173
                        replace hx173_0 := (hX HB hx173_0:);replace p173 := eq_true p173;replace q173 := eq_true q173
                        go_wp2_with (first|((with_reducible refine gate_builtin (b := .append) (xs := #[.tmp 43, .tmp 49]) rfl ?_);(try (refine gate_guard (by rfl) ?_;dsimp only));at_builtin;refine Kd.R_append k79 (w0 := w) w.heap.size rfl (.tmp 43) (.tmp 49) 76 79 (.agg #[(.int .i64 0), (.string ⟨#[]⟩)]) 24 rfl Try.underlying76 info79 rfl (by decide) (by omega) u6 x6_1 (⟨0, rdOf ByteArray.empty l0 x7_1⟩ : S79) [.int .i64 0, .string (rdOf ByteArray.empty l0 x7_1)] (fun _ => True) (fun _ => False) rfl rfl ?aP (fun _ hk => hk.elim) ?aF ?aO ?aB ?aS ?aL ?_;(case aP => exact k79_mkM _ _ _ (⟨0, rdOf ByteArray.empty l0 x7_1⟩ : S79));(case aB => exact eB);(case aF => exact (fun _ _ => trivial));(case aO => exact (rK HO_6));(case aS => exact (below_size eB));(case aL => have := LMc16.out;omega);intro v175 w17 ho hb hg hat;rw [← Ny174.out] at ho;have n0_ := Aside0.mk (Kd.S_over' (sK HO_5) (Kd.R_typed (rK HO_6)) (by decide) hg);have n1_ := Aside0.mk (hb);have n2_ := Aside0.mk (ho);clear HO_5;clear HB;clear HO_6;have HO_5 := n0_;have HB := n1_;have HO176 := n2_;clear n0_ n1_ n2_;clear ho hb hg hat))
                        repeat (go_quiet (first|((with_reducible refine gate_builtin (b := .append) (xs := #[.tmp 43, .tmp 49]) rfl ?_);(try (refine gate_guard (by rfl) ?_;dsimp only));at_builtin;refine Kd.R_append k79 (w0 := w) w.heap.size rfl (.tmp 43) (.tmp 49) 76 79 (.agg #[(.int .i64 0), (.string ⟨#[]⟩)]) 24 rfl Try.underlying76 info79 rfl (by decide) (by omega) u6 x6_1 (⟨0, rdOf ByteArray.empty l0 x7_1⟩ : S79) [.int .i64 0, .string (rdOf ByteArray.empty l0 x7_1)] (fun _ => True) (fun _ => False) rfl rfl ?aP (fun _ hk => hk.elim) ?aF ?aO ?aB ?aS ?aL ?_;(case aP => exact k79_mkM _ _ _ (⟨0, rdOf ByteArray.empty l0 x7_1⟩ : S79));(case aB => exact eB);(case aF => exact (fun _ _ => trivial));(case aO => exact (rK HO_6));(case aS => exact (below_size eB));(case aL => have := LMc16.out;omega);intro v175 w17 ho hb hg hat;rw [← Ny174.out] at ho;have n0_ := Aside0.mk (Kd.S_over' (sK HO_5) (Kd.R_typed (rK HO_6)) (by decide) hg);have n1_ := Aside0.mk (hb);have n2_ := Aside0.mk (ho);clear HO_5;clear HB;clear HO_6;have HO_5 := n0_;have HB := n1_;have HO176 := n2_;clear n0_ n1_ n2_;clear ho hb hg hat));try go_wp2_with (first|((with_reducible refine gate_builtin (b := .append) (xs := #[.tmp 43, .tmp 49]) rfl ?_);(try (refine gate_guard (by rfl) ?_;dsimp only));at_builtin;refine Kd.R_append k79 (w0 := w) w.heap.size rfl (.tmp 43) (.tmp 49) 76 79 (.agg #[(.int .i64 0), (.string ⟨#[]⟩)]) 24 rfl Try.underlying76 info79 rfl (by decide) (by omega) u6 x6_1 (⟨0, rdOf ByteArray.empty l0 x7_1⟩ : S79) [.int .i64 0, .string (rdOf ByteArray.empty l0 x7_1)] (fun _ => True) (fun _ => False) rfl rfl ?aP (fun _ hk => hk.elim) ?aF ?aO ?aB ?aS ?aL ?_;(case aP => exact k79_mkM _ _ _ (⟨0, rdOf ByteArray.empty l0 x7_1⟩ : S79));(case aB => exact eB);(case aF => exact (fun _ _ => trivial));(case aO => exact (rK HO_6));(case aS => exact (below_size eB));(case aL => have := LMc16.out;omega);intro v175 w17 ho hb hg hat;rw [← Ny174.out] at ho;have n0_ := Aside0.mk (Kd.S_over' (sK HO_5) (Kd.R_typed (rK HO_6)) (by decide) hg);have n1_ := Aside0.mk (hb);have n2_ := Aside0.mk (ho);clear HO_5;clear HB;clear HO_6;have HO_5 := n0_;have HB := n1_;have HO176 := n2_;clear n0_ n1_ n2_;clear ho hb hg hat)))
                        go_roundg kj7
                        case measure => have := HK1.out;have := HJ4.out;have := HJ7.out;omega
                        case rel => exact ⟨(y174), (wrap64 (x7_1 + 1)), (wrap64 (x8_1 + 1)), (by first|rfl|(simp only [i64_w, i32_w];done)|(simp only [i64_w, i32_w];rfl)|(simp;done)|(simp [*];done)), (by first|rfl|(simp only [i64_w, i32_w];done)|(simp only [i64_w, i32_w];rfl)|(simp;done)|(simp [*];done)), H', ⟨by have := HK1.out;have := HJ4.out;have := HJ7.out;omega⟩, ⟨by (with_reducible repeat (first|apply Kd.S_alloc|apply Kd.S_drewN|apply Kd.S_drew));exact HO_5.out⟩, ⟨by (with_reducible repeat first|apply rA|apply rN|apply rD);exact HO176.out⟩, ⟨eB⟩⟩
                      · rw [if_neg c16] at H;exact absurd H (by simp)
                    · rw [if_neg c15] at H;exact absurd H (by simp)
                  · rw [if_neg c14] at H;exact absurd H (by simp)
                · replace c13 := Bool.eq_false_iff.mpr c13;subst c13;have H1 : (if x8_1 = (l1.length : Int) then (if 0 ≤ x7_1 then (if x7_1 < (l0.length : Int) then (if x6_1.length < 5864062014805 then (changeforgeref1_Align.l0 kj7 l0 l1 t168 (x6_1 ++ [(⟨1, rdOf ByteArray.empty l0 x7_1⟩ : S79)]) (wrap64 (x7_1 + 1)) x8_1) else (none)) else (none)) else (none)) else (if x7_1 < (l0.length : Int) then (if 0 ≤ x8_1 then (if x8_1 < (t168.length : Int) then (if 0 ≤ (wrap64 (x7_1 + 1)) then (if (wrap64 (x7_1 + 1)) < ((rd_L2 t168 x8_1).length : Int) then (if 0 ≤ (wrap64 (x8_1 + 1)) then (if (wrap64 (x8_1 + 1)) < (t168.length : Int) then (if 0 ≤ x7_1 then (if x7_1 < ((rd_L2 t168 (wrap64 (x8_1 + 1))).length : Int) then (if (rd (rd_L2 t168 x8_1) (wrap64 (x7_1 + 1))) ≥ (rd (rd_L2 t168 (wrap64 (x8_1 + 1))) x7_1) then (if x6_1.length < 5864062014805 then (changeforgeref1_Align.l0 kj7 l0 l1 t168 (x6_1 ++ [(⟨1, rdOf ByteArray.empty l0 x7_1⟩ : S79)]) (wrap64 (x7_1 + 1)) x8_1) else (none)) else (if x8_1 < (l1.length : Int) then (if x6_1.length < 5864062014805 then (changeforgeref1_Align.l0 kj7 l0 l1 t168 (x6_1 ++ [(⟨2, rdOf ByteArray.empty l1 x8_1⟩ : S79)]) x7_1 (wrap64 (x8_1 + 1))) else (none)) else (none))) else (none)) else (none)) else (none)) else (none)) else (none)) else (none)) else (none)) else (none)) else (if 0 ≤ x8_1 then (if x8_1 < (l1.length : Int) then (if x6_1.length < 5864062014805 then (changeforgeref1_Align.l0 kj7 l0 l1 t168 (x6_1 ++ [(⟨2, rdOf ByteArray.empty l1 x8_1⟩ : S79)]) x7_1 (wrap64 (x8_1 + 1))) else (none)) else (none)) else (none)))) = some r := (by rw [if_neg (show ¬ (false = true) by decide)] at H;exact H);clear H;have H := H1;clear H1
                  by_cases c18 : x8_1 = (l1.length : Int)
                  · rw [if_pos c18] at H;have c18b0 : (x8_1 == (l1.length : Int)) = true := beq_iff_eq.mpr c18;have c18b1 : (x8_1 != (l1.length : Int)) = false := bne_eq_false_iff_eq.mpr c18;clear c18
                    by_cases c19 : 0 ≤ x7_1
                    · rw [if_pos c19] at H;have c19b0 : decide (0 ≤ x7_1) = true := decide_eq_true c19;clear c19
                      by_cases c20 : x7_1 < (l0.length : Int)
                      · rw [if_pos c20] at H;have c20b0 : decide (x7_1 < (l0.length : Int)) = true := decide_eq_true c20;clear c20
                        by_cases c21 : x6_1.length < 5864062014805
                        · rw [if_pos c21] at H;have LMc21 := Aside0.mk c21;clear c21;obtain ⟨y178, hy178⟩ : ∃ y_ : List (S79), y_ = (x6_1 ++ [(⟨1, rdOf ByteArray.empty l0 x7_1⟩ : S79)]) := ⟨_, rfl⟩;replace H : (changeforgeref1_Align.l0 kj7 l0 l1 t168 y178 (wrap64 (x7_1 + 1)) x8_1) = some r := (by first|(rw [hy178];with_reducible exact H)|(have H2_ := (Option.bind_some _ _).symm.trans H;rw [hy178];with_reducible exact H2_)|(have H2_ := (Option.bind_some _ _).symm.trans H;with_reducible exact H2_)|with_reducible exact H|(rw [hy178];exact H)|exact H);have Ny178 := Aside0.mk hy178;clear hy178;have H' := Aside0.mk H;clear H;have p177 : 0 ≤ (x7_1 : Int) := dA;have q177 : x7_1 < (l0.length : Int) := dA;obtain ⟨ad177, e177, hx177_0⟩ := Kd.at_string HR0.out x7_1 p177 q177
                          cases e177
                          replace hx177_0 := (hX HB hx177_0:);replace p177 := eq_true p177;replace q177 := eq_true q177
                          go_wp2_with (first|((with_reducible refine gate_builtin (b := .append) (xs := #[.tmp 84, .tmp 90]) rfl ?_);(try (refine gate_guard (by rfl) ?_;dsimp only));at_builtin;refine Kd.R_append k79 (w0 := w) w.heap.size rfl (.tmp 84) (.tmp 90) 76 79 (.agg #[(.int .i64 0), (.string ⟨#[]⟩)]) 24 rfl Try.underlying76 info79 rfl (by decide) (by omega) u6 x6_1 (⟨1, rdOf ByteArray.empty l0 x7_1⟩ : S79) [.int .i64 1, .string (rdOf ByteArray.empty l0 x7_1)] (fun _ => True) (fun _ => False) rfl rfl ?aP (fun _ hk => hk.elim) ?aF ?aO ?aB ?aS ?aL ?_;(case aP => exact k79_mkM _ _ _ (⟨1, rdOf ByteArray.empty l0 x7_1⟩ : S79));(case aB => exact eB);(case aF => exact (fun _ _ => trivial));(case aO => exact (rK HO_6));(case aS => exact (below_size eB));(case aL => have := LMc21.out;omega);intro v179 w22 ho hb hg hat;rw [← Ny178.out] at ho;have n0_ := Aside0.mk (Kd.S_over' (sK HO_5) (Kd.R_typed (rK HO_6)) (by decide) hg);have n1_ := Aside0.mk (hb);have n2_ := Aside0.mk (ho);clear HO_5;clear HB;clear HO_6;have HO_5 := n0_;have HB := n1_;have HO180 := n2_;clear n0_ n1_ n2_;clear ho hb hg hat))
                          repeat (go_quiet (first|((with_reducible refine gate_builtin (b := .append) (xs := #[.tmp 84, .tmp 90]) rfl ?_);(try (refine gate_guard (by rfl) ?_;dsimp only));at_builtin;refine Kd.R_append k79 (w0 := w) w.heap.size rfl (.tmp 84) (.tmp 90) 76 79 (.agg #[(.int .i64 0), (.string ⟨#[]⟩)]) 24 rfl Try.underlying76 info79 rfl (by decide) (by omega) u6 x6_1 (⟨1, rdOf ByteArray.empty l0 x7_1⟩ : S79) [.int .i64 1, .string (rdOf ByteArray.empty l0 x7_1)] (fun _ => True) (fun _ => False) rfl rfl ?aP (fun _ hk => hk.elim) ?aF ?aO ?aB ?aS ?aL ?_;(case aP => exact k79_mkM _ _ _ (⟨1, rdOf ByteArray.empty l0 x7_1⟩ : S79));(case aB => exact eB);(case aF => exact (fun _ _ => trivial));(case aO => exact (rK HO_6));(case aS => exact (below_size eB));(case aL => have := LMc21.out;omega);intro v179 w22 ho hb hg hat;rw [← Ny178.out] at ho;have n0_ := Aside0.mk (Kd.S_over' (sK HO_5) (Kd.R_typed (rK HO_6)) (by decide) hg);have n1_ := Aside0.mk (hb);have n2_ := Aside0.mk (ho);clear HO_5;clear HB;clear HO_6;have HO_5 := n0_;have HB := n1_;have HO180 := n2_;clear n0_ n1_ n2_;clear ho hb hg hat));try go_wp2_with (first|((with_reducible refine gate_builtin (b := .append) (xs := #[.tmp 84, .tmp 90]) rfl ?_);(try (refine gate_guard (by rfl) ?_;dsimp only));at_builtin;refine Kd.R_append k79 (w0 := w) w.heap.size rfl (.tmp 84) (.tmp 90) 76 79 (.agg #[(.int .i64 0), (.string ⟨#[]⟩)]) 24 rfl Try.underlying76 info79 rfl (by decide) (by omega) u6 x6_1 (⟨1, rdOf ByteArray.empty l0 x7_1⟩ : S79) [.int .i64 1, .string (rdOf ByteArray.empty l0 x7_1)] (fun _ => True) (fun _ => False) rfl rfl ?aP (fun _ hk => hk.elim) ?aF ?aO ?aB ?aS ?aL ?_;(case aP => exact k79_mkM _ _ _ (⟨1, rdOf ByteArray.empty l0 x7_1⟩ : S79));(case aB => exact eB);(case aF => exact (fun _ _ => trivial));(case aO => exact (rK HO_6));(case aS => exact (below_size eB));(case aL => have := LMc21.out;omega);intro v179 w22 ho hb hg hat;rw [← Ny178.out] at ho;have n0_ := Aside0.mk (Kd.S_over' (sK HO_5) (Kd.R_typed (rK HO_6)) (by decide) hg);have n1_ := Aside0.mk (hb);have n2_ := Aside0.mk (ho);clear HO_5;clear HB;clear HO_6;have HO_5 := n0_;have HB := n1_;have HO180 := n2_;clear n0_ n1_ n2_;clear ho hb hg hat)))
                          go_roundg kj7
                          case measure => have := HK1.out;have := HJ4.out;have := HJ7.out;omega
                          case rel => exact ⟨(y178), (wrap64 (x7_1 + 1)), (x8_1), (by first|rfl|(simp only [i64_w, i32_w];done)|(simp only [i64_w, i32_w];rfl)|(simp;done)|(simp [*];done)), (by first|rfl|(simp only [i64_w, i32_w];done)|(simp only [i64_w, i32_w];rfl)|(simp;done)|(simp [*];done)), H', ⟨by have := HK1.out;have := HJ4.out;have := HJ7.out;omega⟩, ⟨by (with_reducible repeat (first|apply Kd.S_alloc|apply Kd.S_drewN|apply Kd.S_drew));exact HO_5.out⟩, ⟨by (with_reducible repeat first|apply rA|apply rN|apply rD);exact HO180.out⟩, ⟨eB⟩⟩
                        · rw [if_neg c21] at H;exact absurd H (by simp)
                      · rw [if_neg c20] at H;exact absurd H (by simp)
                    · rw [if_neg c19] at H;exact absurd H (by simp)
                  · rw [if_neg c18] at H;have c18b0 : (x8_1 == (l1.length : Int)) = false := beq_eq_false_iff_ne.mpr c18;have c18b1 : (x8_1 != (l1.length : Int)) = true := bne_iff_ne.mpr c18
                    by_cases c23 : x7_1 < (l0.length : Int)
                    · rw [if_pos c23] at H;have c23b0 : decide (x7_1 < (l0.length : Int)) = true := decide_eq_true c23;clear c23
                      by_cases c24 : 0 ≤ x8_1
                      · rw [if_pos c24] at H;have c24b0 : decide (0 ≤ x8_1) = true := decide_eq_true c24;clear c24
                        by_cases c25 : x8_1 < (t168.length : Int)
                        · rw [if_pos c25] at H;have c25b0 : decide (x8_1 < (t168.length : Int)) = true := decide_eq_true c25;clear c25;obtain ⟨ji26, hji26⟩ : ∃ j_ : Int, (wrap64 (x7_1 + 1)) = j_ := ⟨_, rfl⟩;replace H : (if 0 ≤ (ji26) then (if (ji26) < ((rd_L2 t168 x8_1).length : Int) then (if 0 ≤ (wrap64 (x8_1 + 1)) then (if (wrap64 (x8_1 + 1)) < (t168.length : Int) then (if 0 ≤ x7_1 then (if x7_1 < ((rd_L2 t168 (wrap64 (x8_1 + 1))).length : Int) then (if (rd (rd_L2 t168 x8_1) (ji26)) ≥ (rd (rd_L2 t168 (wrap64 (x8_1 + 1))) x7_1) then (if x6_1.length < 5864062014805 then (changeforgeref1_Align.l0 kj7 l0 l1 t168 (x6_1 ++ [(⟨1, rdOf ByteArray.empty l0 x7_1⟩ : S79)]) ji26 x8_1) else (none)) else (if x8_1 < (l1.length : Int) then (if x6_1.length < 5864062014805 then (changeforgeref1_Align.l0 kj7 l0 l1 t168 (x6_1 ++ [(⟨2, rdOf ByteArray.empty l1 x8_1⟩ : S79)]) x7_1 (wrap64 (x8_1 + 1))) else (none)) else (none))) else (none)) else (none)) else (none)) else (none)) else (none)) else (none)) = some r := (by first|(rw [hji26] at H;exact H)|(simp only [hji26] at H ⊢;exact H));have hji26w : (IntKind.i64.wrap (x7_1 + 1)) = ji26 := (i64_w _).trans hji26
                          by_cases c27 : 0 ≤ (ji26)
                          · rw [if_pos c27] at H;have c27b0 : decide (0 ≤ (ji26)) = true := decide_eq_true c27;clear c27
                            by_cases c28 : (ji26) < ((rd_L2 t168 x8_1).length : Int)
                            · rw [if_pos c28] at H;have c28b0 : decide ((ji26) < ((rd_L2 t168 x8_1).length : Int)) = true := decide_eq_true c28;clear c28;obtain ⟨ji29, hji29⟩ : ∃ j_ : Int, (wrap64 (x8_1 + 1)) = j_ := ⟨_, rfl⟩;replace H : (if 0 ≤ (ji29) then (if (ji29) < (t168.length : Int) then (if 0 ≤ x7_1 then (if x7_1 < ((rd_L2 t168 (ji29)).length : Int) then (if (rd (rd_L2 t168 x8_1) (ji26)) ≥ (rd (rd_L2 t168 (ji29)) x7_1) then (if x6_1.length < 5864062014805 then (changeforgeref1_Align.l0 kj7 l0 l1 t168 (x6_1 ++ [(⟨1, rdOf ByteArray.empty l0 x7_1⟩ : S79)]) ji26 x8_1) else (none)) else (if x8_1 < (l1.length : Int) then (if x6_1.length < 5864062014805 then (changeforgeref1_Align.l0 kj7 l0 l1 t168 (x6_1 ++ [(⟨2, rdOf ByteArray.empty l1 x8_1⟩ : S79)]) x7_1 ji29) else (none)) else (none))) else (none)) else (none)) else (none)) else (none)) = some r := (by first|(rw [hji29] at H;exact H)|(simp only [hji29] at H ⊢;exact H));have hji29w : (IntKind.i64.wrap (x8_1 + 1)) = ji29 := (i64_w _).trans hji29
                              by_cases c30 : 0 ≤ (ji29)
                              · rw [if_pos c30] at H;have c30b0 : decide (0 ≤ (ji29)) = true := decide_eq_true c30;clear c30
                                by_cases c31 : (ji29) < (t168.length : Int)
                                · rw [if_pos c31] at H;have c31b0 : decide ((ji29) < (t168.length : Int)) = true := decide_eq_true c31;clear c31
                                  by_cases c32 : 0 ≤ x7_1
                                  · rw [if_pos c32] at H;have c32b0 : decide (0 ≤ x7_1) = true := decide_eq_true c32;clear c32
                                    by_cases c33 : x7_1 < ((rd_L2 t168 (ji29)).length : Int)
                                    · rw [if_pos c33] at H;have c33b0 : decide (x7_1 < ((rd_L2 t168 (ji29)).length : Int)) = true := decide_eq_true c33;clear c33
                                      by_cases c34 : (rd (rd_L2 t168 x8_1) (ji26)) ≥ (rd (rd_L2 t168 (ji29)) x7_1)
                                      · rw [if_pos c34] at H;have c34b0 : decide ((rd (rd_L2 t168 (ji29)) x7_1) ≤ (rd (rd_L2 t168 x8_1) (ji26))) = true := decide_eq_true c34;clear c34
                                        by_cases c35 : x6_1.length < 5864062014805
                                        · rw [if_pos c35] at H;have LMc35 := Aside0.mk c35;clear c35;obtain ⟨y186, hy186⟩ : ∃ y_ : List (S79), y_ = (x6_1 ++ [(⟨1, rdOf ByteArray.empty l0 x7_1⟩ : S79)]) := ⟨_, rfl⟩;replace H : (changeforgeref1_Align.l0 kj7 l0 l1 t168 y186 ji26 x8_1) = some r := (by first|(rw [hy186];with_reducible exact H)|(have H2_ := (Option.bind_some _ _).symm.trans H;rw [hy186];with_reducible exact H2_)|(have H2_ := (Option.bind_some _ _).symm.trans H;with_reducible exact H2_)|with_reducible exact H|(rw [hy186];exact H)|exact H);have Ny186 := Aside0.mk hy186;clear hy186;have H' := Aside0.mk H;clear H;obtain ⟨Ao36, co36, eo36⟩ := Kd.S_slice HO_5.out;subst eo36;have p181 : 0 ≤ (x8_1 : Int) := dA;have q181 : x8_1 < (t168.length : Int) := dA;obtain ⟨ad181, A181_0, c181_0, e181, hx181_0, hl181_0, hi181_0⟩ := at_L2 (Kd.S_reads' HO_5.out).2.2 x8_1 p181 q181
                                          cases e181
                                          obtain ⟨ce181, hce181, hMe181, hcc181⟩ := Kd.S_get HO_5.out [] x8_1 p181 (by first|exact q181|exact dA|(have e_ := (Kd.S_reads' HO_5.out).1;omega));obtain ⟨ve181_0, rfl, ge181_0⟩ := hMe181;have hv181_0 := hcc181 0 _ rfl;rw [Nat.add_zero, show ((Kd.slice 3 (Kd.int .i64))).sz = 1 from rfl, Nat.mul_one] at hv181_0;replace hv181_0 := Option.some.inj (hv181_0.symm.trans hx181_0);rw [hv181_0] at ge181_0;have HL181_0 := Aside0.mk (show Kd.R (Kd.int .i64) 3 _ _ _ _ (rd_L2 t168 x8_1) from ge181_0);clear hv181_0 ge181_0;clear hcc181 hce181;have HR181_0 := Aside0.mk hi181_0;have HC181_0 := Aside0.mk hl181_0;clear hi181_0 hl181_0;replace p181 := eq_true p181;replace q181 := eq_true q181;have p182 : 0 ≤ ((ji26) : Int) := dA;have q182 : (ji26) < ((rd_L2 t168 x8_1).length : Int) := dA;obtain ⟨ad182, e182, hx182_0⟩ := Kd.at_int (by repeat (first|(with_reducible exact HR181_0.out)|(with_reducible refine Kd.C_alloc ?_ _)|(with_reducible refine Kd.C_drewN ?_ _)|(with_reducible refine Kd.C_drew ?_)|exact HR181_0.out)) (ji26) p182 q182
                                          cases e182
                                          replace p182 := eq_true p182;replace q182 := eq_true q182;have p183 : 0 ≤ ((ji29) : Int) := dA;have q183 : (ji29) < (t168.length : Int) := dA;obtain ⟨ad183, A183_0, c183_0, e183, hx183_0, hl183_0, hi183_0⟩ := at_L2 (Kd.S_reads' HO_5.out).2.2 (ji29) p183 q183;obtain rfl : ad181 = ad183 := (by injection e183);obtain ⟨ce183, hce183, hMe183, hcc183⟩ := Kd.S_get HO_5.out [] (ji29) p183 (by first|exact q183|exact dA|(have e_ := (Kd.S_reads' HO_5.out).1;omega));obtain ⟨ve183_0, rfl, ge183_0⟩ := hMe183;have hv183_0 := hcc183 0 _ rfl;rw [Nat.add_zero, show ((Kd.slice 3 (Kd.int .i64))).sz = 1 from rfl, Nat.mul_one] at hv183_0;replace hv183_0 := Option.some.inj (hv183_0.symm.trans hx183_0);rw [hv183_0] at ge183_0;have HL183_0 := Aside0.mk (show Kd.R (Kd.int .i64) 3 _ _ _ _ (rd_L2 t168 (ji29)) from ge183_0);clear hv183_0 ge183_0;clear hcc183 hce183;have HR183_0 := Aside0.mk hi183_0;have HC183_0 := Aside0.mk hl183_0;clear hi183_0 hl183_0;replace p183 := eq_true p183;replace q183 := eq_true q183;have p184 : 0 ≤ (x7_1 : Int) := dA;have q184 : x7_1 < ((rd_L2 t168 (ji29)).length : Int) := dA;obtain ⟨ad184, e184, hx184_0⟩ := Kd.at_int (by repeat (first|(with_reducible exact HR183_0.out)|(with_reducible refine Kd.C_alloc ?_ _)|(with_reducible refine Kd.C_drewN ?_ _)|(with_reducible refine Kd.C_drew ?_)|exact HR183_0.out)) x7_1 p184 q184
                                          cases e184
                                          replace p184 := eq_true p184;replace q184 := eq_true q184;have p185 : 0 ≤ (x7_1 : Int) := dA;have q185 : x7_1 < (l0.length : Int) := dA;obtain ⟨ad185, e185, hx185_0⟩ := Kd.at_string HR0.out x7_1 p185 q185
                                          cases e185
                                          replace hx185_0 := (hX HB hx185_0:);replace p185 := eq_true p185;replace q185 := eq_true q185
                                          go_wp2_with (first|((with_reducible refine gate_builtin (b := .append) (xs := #[.tmp 84, .tmp 90]) rfl ?_);(try (refine gate_guard (by rfl) ?_;dsimp only));at_builtin;refine Kd.R_append k79 (w0 := w) w.heap.size rfl (.tmp 84) (.tmp 90) 76 79 (.agg #[(.int .i64 0), (.string ⟨#[]⟩)]) 24 rfl Try.underlying76 info79 rfl (by decide) (by omega) u6 x6_1 (⟨1, rdOf ByteArray.empty l0 x7_1⟩ : S79) [.int .i64 1, .string (rdOf ByteArray.empty l0 x7_1)] (fun _ => True) (fun _ => False) rfl rfl ?aP (fun _ hk => hk.elim) ?aF ?aO ?aB ?aS ?aL ?_;(case aP => exact k79_mkM _ _ _ (⟨1, rdOf ByteArray.empty l0 x7_1⟩ : S79));(case aB => exact eB);(case aF => exact (fun _ _ => trivial));(case aO => exact (rK HO_6));(case aS => exact (below_size eB));(case aL => have := LMc35.out;omega);intro v187 w37 ho hb hg hat;rw [← Ny186.out] at ho;have n0_ := Aside0.mk (Kd.S_over' (sK HO_5) (Kd.R_typed (rK HO_6)) (by decide) hg);have n1_ := Aside0.mk (Kd.R_over' (rK HL181_0) (Kd.R_typed (rK HO_6)) (by decide) hg);have n2_ := Aside0.mk (Kd.R_over' (rK HL183_0) (Kd.R_typed (rK HO_6)) (by decide) hg);have n3_ := Aside0.mk (hb);have n4_ := Aside0.mk (ho);clear HO_5;clear HL181_0;clear HL183_0;clear HB;clear HO_6;have HO_5 := n0_;have HL181_0 := n1_;have HL183_0 := n2_;have HB := n3_;have HO188 := n4_;clear n0_ n1_ n2_ n3_ n4_;clear ho hb hg hat))
                                          repeat (go_quiet (first|((with_reducible refine gate_builtin (b := .append) (xs := #[.tmp 84, .tmp 90]) rfl ?_);(try (refine gate_guard (by rfl) ?_;dsimp only));at_builtin;refine Kd.R_append k79 (w0 := w) w.heap.size rfl (.tmp 84) (.tmp 90) 76 79 (.agg #[(.int .i64 0), (.string ⟨#[]⟩)]) 24 rfl Try.underlying76 info79 rfl (by decide) (by omega) u6 x6_1 (⟨1, rdOf ByteArray.empty l0 x7_1⟩ : S79) [.int .i64 1, .string (rdOf ByteArray.empty l0 x7_1)] (fun _ => True) (fun _ => False) rfl rfl ?aP (fun _ hk => hk.elim) ?aF ?aO ?aB ?aS ?aL ?_;(case aP => exact k79_mkM _ _ _ (⟨1, rdOf ByteArray.empty l0 x7_1⟩ : S79));(case aB => exact eB);(case aF => exact (fun _ _ => trivial));(case aO => exact (rK HO_6));(case aS => exact (below_size eB));(case aL => have := LMc35.out;omega);intro v187 w37 ho hb hg hat;rw [← Ny186.out] at ho;have n0_ := Aside0.mk (Kd.S_over' (sK HO_5) (Kd.R_typed (rK HO_6)) (by decide) hg);have n1_ := Aside0.mk (Kd.R_over' (rK HL181_0) (Kd.R_typed (rK HO_6)) (by decide) hg);have n2_ := Aside0.mk (Kd.R_over' (rK HL183_0) (Kd.R_typed (rK HO_6)) (by decide) hg);have n3_ := Aside0.mk (hb);have n4_ := Aside0.mk (ho);clear HO_5;clear HL181_0;clear HL183_0;clear HB;clear HO_6;have HO_5 := n0_;have HL181_0 := n1_;have HL183_0 := n2_;have HB := n3_;have HO188 := n4_;clear n0_ n1_ n2_ n3_ n4_;clear ho hb hg hat));try go_wp2_with (first|((with_reducible refine gate_builtin (b := .append) (xs := #[.tmp 84, .tmp 90]) rfl ?_);(try (refine gate_guard (by rfl) ?_;dsimp only));at_builtin;refine Kd.R_append k79 (w0 := w) w.heap.size rfl (.tmp 84) (.tmp 90) 76 79 (.agg #[(.int .i64 0), (.string ⟨#[]⟩)]) 24 rfl Try.underlying76 info79 rfl (by decide) (by omega) u6 x6_1 (⟨1, rdOf ByteArray.empty l0 x7_1⟩ : S79) [.int .i64 1, .string (rdOf ByteArray.empty l0 x7_1)] (fun _ => True) (fun _ => False) rfl rfl ?aP (fun _ hk => hk.elim) ?aF ?aO ?aB ?aS ?aL ?_;(case aP => exact k79_mkM _ _ _ (⟨1, rdOf ByteArray.empty l0 x7_1⟩ : S79));(case aB => exact eB);(case aF => exact (fun _ _ => trivial));(case aO => exact (rK HO_6));(case aS => exact (below_size eB));(case aL => have := LMc35.out;omega);intro v187 w37 ho hb hg hat;rw [← Ny186.out] at ho;have n0_ := Aside0.mk (Kd.S_over' (sK HO_5) (Kd.R_typed (rK HO_6)) (by decide) hg);have n1_ := Aside0.mk (Kd.R_over' (rK HL181_0) (Kd.R_typed (rK HO_6)) (by decide) hg);have n2_ := Aside0.mk (Kd.R_over' (rK HL183_0) (Kd.R_typed (rK HO_6)) (by decide) hg);have n3_ := Aside0.mk (hb);have n4_ := Aside0.mk (ho);clear HO_5;clear HL181_0;clear HL183_0;clear HB;clear HO_6;have HO_5 := n0_;have HL181_0 := n1_;have HL183_0 := n2_;have HB := n3_;have HO188 := n4_;clear n0_ n1_ n2_ n3_ n4_;clear ho hb hg hat)))
                                          go_roundg kj7
                                          case measure => have := HK1.out;have := HJ4.out;have := HJ7.out;omega
                                          case rel => exact ⟨(y186), (ji26), (x8_1), (by first|rfl|(simp;done)|(simp only [← hji26] <;> (first|rfl|simp))|(simp [*];done)), (by first|rfl|(simp only [i64_w, i32_w];done)|(simp only [i64_w, i32_w];rfl)|(simp;done)|(simp [*];done)), H', ⟨by have := HK1.out;have := HJ4.out;have := HJ7.out;omega⟩, ⟨by (with_reducible repeat (first|apply Kd.S_alloc|apply Kd.S_drewN|apply Kd.S_drew));exact HO_5.out⟩, ⟨by (with_reducible repeat first|apply rA|apply rN|apply rD);exact HO188.out⟩, ⟨eB⟩⟩
                                        · rw [if_neg c35] at H;exact absurd H (by simp)
                                      · rw [if_neg c34] at H;have c34b0 : decide ((rd (rd_L2 t168 (ji29)) x7_1) ≤ (rd (rd_L2 t168 x8_1) (ji26))) = false := decide_eq_false c34;clear c34
                                        by_cases c38 : x8_1 < (l1.length : Int)
                                        · rw [if_pos c38] at H;have c38b0 : decide (x8_1 < (l1.length : Int)) = true := decide_eq_true c38;clear c38
                                          by_cases c39 : x6_1.length < 5864062014805
                                          · rw [if_pos c39] at H;have LMc39 := Aside0.mk c39;clear c39;obtain ⟨y190, hy190⟩ : ∃ y_ : List (S79), y_ = (x6_1 ++ [(⟨2, rdOf ByteArray.empty l1 x8_1⟩ : S79)]) := ⟨_, rfl⟩;replace H : (changeforgeref1_Align.l0 kj7 l0 l1 t168 y190 x7_1 ji29) = some r := (by first|(rw [hy190];with_reducible exact H)|(have H2_ := (Option.bind_some _ _).symm.trans H;rw [hy190];with_reducible exact H2_)|(have H2_ := (Option.bind_some _ _).symm.trans H;with_reducible exact H2_)|with_reducible exact H|(rw [hy190];exact H)|exact H);have Ny190 := Aside0.mk hy190;clear hy190;have H' := Aside0.mk H;clear H;obtain ⟨Ao40, co40, eo40⟩ := Kd.S_slice HO_5.out;subst eo40;have p181 : 0 ≤ (x8_1 : Int) := dA;have q181 : x8_1 < (t168.length : Int) := dA;obtain ⟨ad181, A181_0, c181_0, e181, hx181_0, hl181_0, hi181_0⟩ := at_L2 (Kd.S_reads' HO_5.out).2.2 x8_1 p181 q181
                                            cases e181
                                            obtain ⟨ce181, hce181, hMe181, hcc181⟩ := Kd.S_get HO_5.out [] x8_1 p181 (by first|exact q181|exact dA|(have e_ := (Kd.S_reads' HO_5.out).1;omega));obtain ⟨ve181_0, rfl, ge181_0⟩ := hMe181;have hv181_0 := hcc181 0 _ rfl;rw [Nat.add_zero, show ((Kd.slice 3 (Kd.int .i64))).sz = 1 from rfl, Nat.mul_one] at hv181_0;replace hv181_0 := Option.some.inj (hv181_0.symm.trans hx181_0);rw [hv181_0] at ge181_0;have HL181_0 := Aside0.mk (show Kd.R (Kd.int .i64) 3 _ _ _ _ (rd_L2 t168 x8_1) from ge181_0);clear hv181_0 ge181_0;clear hcc181 hce181;have HR181_0 := Aside0.mk hi181_0;have HC181_0 := Aside0.mk hl181_0;clear hi181_0 hl181_0;replace p181 := eq_true p181;replace q181 := eq_true q181;have p182 : 0 ≤ ((ji26) : Int) := dA;have q182 : (ji26) < ((rd_L2 t168 x8_1).length : Int) := dA;obtain ⟨ad182, e182, hx182_0⟩ := Kd.at_int (by repeat (first|(with_reducible exact HR181_0.out)|(with_reducible refine Kd.C_alloc ?_ _)|(with_reducible refine Kd.C_drewN ?_ _)|(with_reducible refine Kd.C_drew ?_)|exact HR181_0.out)) (ji26) p182 q182
                                            cases e182
                                            replace p182 := eq_true p182;replace q182 := eq_true q182;have p183 : 0 ≤ ((ji29) : Int) := dA;have q183 : (ji29) < (t168.length : Int) := dA;obtain ⟨ad183, A183_0, c183_0, e183, hx183_0, hl183_0, hi183_0⟩ := at_L2 (Kd.S_reads' HO_5.out).2.2 (ji29) p183 q183;obtain rfl : ad181 = ad183 := (by injection e183);obtain ⟨ce183, hce183, hMe183, hcc183⟩ := Kd.S_get HO_5.out [] (ji29) p183 (by first|exact q183|exact dA|(have e_ := (Kd.S_reads' HO_5.out).1;omega));obtain ⟨ve183_0, rfl, ge183_0⟩ := hMe183;have hv183_0 := hcc183 0 _ rfl;rw [Nat.add_zero, show ((Kd.slice 3 (Kd.int .i64))).sz = 1 from rfl, Nat.mul_one] at hv183_0;replace hv183_0 := Option.some.inj (hv183_0.symm.trans hx183_0);rw [hv183_0] at ge183_0;have HL183_0 := Aside0.mk (show Kd.R (Kd.int .i64) 3 _ _ _ _ (rd_L2 t168 (ji29)) from ge183_0);clear hv183_0 ge183_0;clear hcc183 hce183;have HR183_0 := Aside0.mk hi183_0;have HC183_0 := Aside0.mk hl183_0;clear hi183_0 hl183_0;replace p183 := eq_true p183;replace q183 := eq_true q183;have p184 : 0 ≤ (x7_1 : Int) := dA;have q184 : x7_1 < ((rd_L2 t168 (ji29)).length : Int) := dA;obtain ⟨ad184, e184, hx184_0⟩ := Kd.at_int (by repeat (first|(with_reducible exact HR183_0.out)|(with_reducible refine Kd.C_alloc ?_ _)|(with_reducible refine Kd.C_drewN ?_ _)|(with_reducible refine Kd.C_drew ?_)|exact HR183_0.out)) x7_1 p184 q184
                                            cases e184
                                            replace p184 := eq_true p184;replace q184 := eq_true q184;have p189 : 0 ≤ (x8_1 : Int) := dA;have q189 : x8_1 < (l1.length : Int) := dA;obtain ⟨ad189, e189, hx189_0⟩ := Kd.at_string HR1.out x8_1 p189 q189
                                            cases e189
                                            replace hx189_0 := (hX HB hx189_0:);replace p189 := eq_true p189;replace q189 := eq_true q189
                                            go_wp2_with (first|((with_reducible refine gate_builtin (b := .append) (xs := #[.tmp 94, .tmp 100]) rfl ?_);(try (refine gate_guard (by rfl) ?_;dsimp only));at_builtin;refine Kd.R_append k79 (w0 := w) w.heap.size rfl (.tmp 94) (.tmp 100) 76 79 (.agg #[(.int .i64 0), (.string ⟨#[]⟩)]) 24 rfl Try.underlying76 info79 rfl (by decide) (by omega) u6 x6_1 (⟨2, rdOf ByteArray.empty l1 x8_1⟩ : S79) [.int .i64 2, .string (rdOf ByteArray.empty l1 x8_1)] (fun _ => True) (fun _ => False) rfl rfl ?aP (fun _ hk => hk.elim) ?aF ?aO ?aB ?aS ?aL ?_;(case aP => exact k79_mkM _ _ _ (⟨2, rdOf ByteArray.empty l1 x8_1⟩ : S79));(case aB => exact eB);(case aF => exact (fun _ _ => trivial));(case aO => exact (rK HO_6));(case aS => exact (below_size eB));(case aL => have := LMc39.out;omega);intro v191 w41 ho hb hg hat;rw [← Ny190.out] at ho;have n0_ := Aside0.mk (Kd.S_over' (sK HO_5) (Kd.R_typed (rK HO_6)) (by decide) hg);have n1_ := Aside0.mk (Kd.R_over' (rK HL181_0) (Kd.R_typed (rK HO_6)) (by decide) hg);have n2_ := Aside0.mk (Kd.R_over' (rK HL183_0) (Kd.R_typed (rK HO_6)) (by decide) hg);have n3_ := Aside0.mk (hb);have n4_ := Aside0.mk (ho);clear HO_5;clear HL181_0;clear HL183_0;clear HB;clear HO_6;have HO_5 := n0_;have HL181_0 := n1_;have HL183_0 := n2_;have HB := n3_;have HO192 := n4_;clear n0_ n1_ n2_ n3_ n4_;clear ho hb hg hat))
                                            repeat (go_quiet (first|((with_reducible refine gate_builtin (b := .append) (xs := #[.tmp 94, .tmp 100]) rfl ?_);(try (refine gate_guard (by rfl) ?_;dsimp only));at_builtin;refine Kd.R_append k79 (w0 := w) w.heap.size rfl (.tmp 94) (.tmp 100) 76 79 (.agg #[(.int .i64 0), (.string ⟨#[]⟩)]) 24 rfl Try.underlying76 info79 rfl (by decide) (by omega) u6 x6_1 (⟨2, rdOf ByteArray.empty l1 x8_1⟩ : S79) [.int .i64 2, .string (rdOf ByteArray.empty l1 x8_1)] (fun _ => True) (fun _ => False) rfl rfl ?aP (fun _ hk => hk.elim) ?aF ?aO ?aB ?aS ?aL ?_;(case aP => exact k79_mkM _ _ _ (⟨2, rdOf ByteArray.empty l1 x8_1⟩ : S79));(case aB => exact eB);(case aF => exact (fun _ _ => trivial));(case aO => exact (rK HO_6));(case aS => exact (below_size eB));(case aL => have := LMc39.out;omega);intro v191 w41 ho hb hg hat;rw [← Ny190.out] at ho;have n0_ := Aside0.mk (Kd.S_over' (sK HO_5) (Kd.R_typed (rK HO_6)) (by decide) hg);have n1_ := Aside0.mk (Kd.R_over' (rK HL181_0) (Kd.R_typed (rK HO_6)) (by decide) hg);have n2_ := Aside0.mk (Kd.R_over' (rK HL183_0) (Kd.R_typed (rK HO_6)) (by decide) hg);have n3_ := Aside0.mk (hb);have n4_ := Aside0.mk (ho);clear HO_5;clear HL181_0;clear HL183_0;clear HB;clear HO_6;have HO_5 := n0_;have HL181_0 := n1_;have HL183_0 := n2_;have HB := n3_;have HO192 := n4_;clear n0_ n1_ n2_ n3_ n4_;clear ho hb hg hat));try go_wp2_with (first|((with_reducible refine gate_builtin (b := .append) (xs := #[.tmp 94, .tmp 100]) rfl ?_);(try (refine gate_guard (by rfl) ?_;dsimp only));at_builtin;refine Kd.R_append k79 (w0 := w) w.heap.size rfl (.tmp 94) (.tmp 100) 76 79 (.agg #[(.int .i64 0), (.string ⟨#[]⟩)]) 24 rfl Try.underlying76 info79 rfl (by decide) (by omega) u6 x6_1 (⟨2, rdOf ByteArray.empty l1 x8_1⟩ : S79) [.int .i64 2, .string (rdOf ByteArray.empty l1 x8_1)] (fun _ => True) (fun _ => False) rfl rfl ?aP (fun _ hk => hk.elim) ?aF ?aO ?aB ?aS ?aL ?_;(case aP => exact k79_mkM _ _ _ (⟨2, rdOf ByteArray.empty l1 x8_1⟩ : S79));(case aB => exact eB);(case aF => exact (fun _ _ => trivial));(case aO => exact (rK HO_6));(case aS => exact (below_size eB));(case aL => have := LMc39.out;omega);intro v191 w41 ho hb hg hat;rw [← Ny190.out] at ho;have n0_ := Aside0.mk (Kd.S_over' (sK HO_5) (Kd.R_typed (rK HO_6)) (by decide) hg);have n1_ := Aside0.mk (Kd.R_over' (rK HL181_0) (Kd.R_typed (rK HO_6)) (by decide) hg);have n2_ := Aside0.mk (Kd.R_over' (rK HL183_0) (Kd.R_typed (rK HO_6)) (by decide) hg);have n3_ := Aside0.mk (hb);have n4_ := Aside0.mk (ho);clear HO_5;clear HL181_0;clear HL183_0;clear HB;clear HO_6;have HO_5 := n0_;have HL181_0 := n1_;have HL183_0 := n2_;have HB := n3_;have HO192 := n4_;clear n0_ n1_ n2_ n3_ n4_;clear ho hb hg hat)))
                                            go_roundg kj7
                                            case measure => have := HK1.out;have := HJ4.out;have := HJ7.out;omega
                                            case rel => exact ⟨(y190), (x7_1), (ji29), (by first|rfl|(simp only [i64_w, i32_w];done)|(simp only [i64_w, i32_w];rfl)|(simp;done)|(simp [*];done)), (by first|rfl|(simp;done)|(simp only [← hji29] <;> (first|rfl|simp))|(simp [*];done)), H', ⟨by have := HK1.out;have := HJ4.out;have := HJ7.out;omega⟩, ⟨by (with_reducible repeat (first|apply Kd.S_alloc|apply Kd.S_drewN|apply Kd.S_drew));exact HO_5.out⟩, ⟨by (with_reducible repeat first|apply rA|apply rN|apply rD);exact HO192.out⟩, ⟨eB⟩⟩
                                          · rw [if_neg c39] at H;exact absurd H (by simp)
                                        · rw [if_neg c38] at H;exact absurd H (by simp)
                                    · rw [if_neg c33] at H;exact absurd H (by simp)
                                  · rw [if_neg c32] at H;exact absurd H (by simp)
                                · rw [if_neg c31] at H;exact absurd H (by simp)
                              · rw [if_neg c30] at H;exact absurd H (by simp)
                            · rw [if_neg c28] at H;exact absurd H (by simp)
                          · rw [if_neg c27] at H;exact absurd H (by simp)
                        · rw [if_neg c25] at H;exact absurd H (by simp)
                      · rw [if_neg c24] at H;exact absurd H (by simp)
                    · rw [if_neg c23] at H;have c23b0 : decide (x7_1 < (l0.length : Int)) = false := decide_eq_false c23;clear c23
                      by_cases c42 : 0 ≤ x8_1
                      · rw [if_pos c42] at H;have c42b0 : decide (0 ≤ x8_1) = true := decide_eq_true c42;clear c42
                        by_cases c43 : x8_1 < (l1.length : Int)
                        · rw [if_pos c43] at H;have c43b0 : decide (x8_1 < (l1.length : Int)) = true := decide_eq_true c43;clear c43
                          by_cases c44 : x6_1.length < 5864062014805
                          · rw [if_pos c44] at H;have LMc44 := Aside0.mk c44;clear c44;obtain ⟨y194, hy194⟩ : ∃ y_ : List (S79), y_ = (x6_1 ++ [(⟨2, rdOf ByteArray.empty l1 x8_1⟩ : S79)]) := ⟨_, rfl⟩;replace H : (changeforgeref1_Align.l0 kj7 l0 l1 t168 y194 x7_1 (wrap64 (x8_1 + 1))) = some r := (by first|(rw [hy194];with_reducible exact H)|(have H2_ := (Option.bind_some _ _).symm.trans H;rw [hy194];with_reducible exact H2_)|(have H2_ := (Option.bind_some _ _).symm.trans H;with_reducible exact H2_)|with_reducible exact H|(rw [hy194];exact H)|exact H);have Ny194 := Aside0.mk hy194;clear hy194;have H' := Aside0.mk H;clear H;have p193 : 0 ≤ (x8_1 : Int) := dA;have q193 : x8_1 < (l1.length : Int) := dA;obtain ⟨ad193, e193, hx193_0⟩ := Kd.at_string HR1.out x8_1 p193 q193
                            cases e193
                            replace hx193_0 := (hX HB hx193_0:);replace p193 := eq_true p193;replace q193 := eq_true q193
                            go_wp2_with (first|((with_reducible refine gate_builtin (b := .append) (xs := #[.tmp 94, .tmp 100]) rfl ?_);(try (refine gate_guard (by rfl) ?_;dsimp only));at_builtin;refine Kd.R_append k79 (w0 := w) w.heap.size rfl (.tmp 94) (.tmp 100) 76 79 (.agg #[(.int .i64 0), (.string ⟨#[]⟩)]) 24 rfl Try.underlying76 info79 rfl (by decide) (by omega) u6 x6_1 (⟨2, rdOf ByteArray.empty l1 x8_1⟩ : S79) [.int .i64 2, .string (rdOf ByteArray.empty l1 x8_1)] (fun _ => True) (fun _ => False) rfl rfl ?aP (fun _ hk => hk.elim) ?aF ?aO ?aB ?aS ?aL ?_;(case aP => exact k79_mkM _ _ _ (⟨2, rdOf ByteArray.empty l1 x8_1⟩ : S79));(case aB => exact eB);(case aF => exact (fun _ _ => trivial));(case aO => exact (rK HO_6));(case aS => exact (below_size eB));(case aL => have := LMc44.out;omega);intro v195 w45 ho hb hg hat;rw [← Ny194.out] at ho;have n0_ := Aside0.mk (Kd.S_over' (sK HO_5) (Kd.R_typed (rK HO_6)) (by decide) hg);have n1_ := Aside0.mk (hb);have n2_ := Aside0.mk (ho);clear HO_5;clear HB;clear HO_6;have HO_5 := n0_;have HB := n1_;have HO196 := n2_;clear n0_ n1_ n2_;clear ho hb hg hat))
                            repeat (go_quiet (first|((with_reducible refine gate_builtin (b := .append) (xs := #[.tmp 94, .tmp 100]) rfl ?_);(try (refine gate_guard (by rfl) ?_;dsimp only));at_builtin;refine Kd.R_append k79 (w0 := w) w.heap.size rfl (.tmp 94) (.tmp 100) 76 79 (.agg #[(.int .i64 0), (.string ⟨#[]⟩)]) 24 rfl Try.underlying76 info79 rfl (by decide) (by omega) u6 x6_1 (⟨2, rdOf ByteArray.empty l1 x8_1⟩ : S79) [.int .i64 2, .string (rdOf ByteArray.empty l1 x8_1)] (fun _ => True) (fun _ => False) rfl rfl ?aP (fun _ hk => hk.elim) ?aF ?aO ?aB ?aS ?aL ?_;(case aP => exact k79_mkM _ _ _ (⟨2, rdOf ByteArray.empty l1 x8_1⟩ : S79));(case aB => exact eB);(case aF => exact (fun _ _ => trivial));(case aO => exact (rK HO_6));(case aS => exact (below_size eB));(case aL => have := LMc44.out;omega);intro v195 w45 ho hb hg hat;rw [← Ny194.out] at ho;have n0_ := Aside0.mk (Kd.S_over' (sK HO_5) (Kd.R_typed (rK HO_6)) (by decide) hg);have n1_ := Aside0.mk (hb);have n2_ := Aside0.mk (ho);clear HO_5;clear HB;clear HO_6;have HO_5 := n0_;have HB := n1_;have HO196 := n2_;clear n0_ n1_ n2_;clear ho hb hg hat));try go_wp2_with (first|((with_reducible refine gate_builtin (b := .append) (xs := #[.tmp 94, .tmp 100]) rfl ?_);(try (refine gate_guard (by rfl) ?_;dsimp only));at_builtin;refine Kd.R_append k79 (w0 := w) w.heap.size rfl (.tmp 94) (.tmp 100) 76 79 (.agg #[(.int .i64 0), (.string ⟨#[]⟩)]) 24 rfl Try.underlying76 info79 rfl (by decide) (by omega) u6 x6_1 (⟨2, rdOf ByteArray.empty l1 x8_1⟩ : S79) [.int .i64 2, .string (rdOf ByteArray.empty l1 x8_1)] (fun _ => True) (fun _ => False) rfl rfl ?aP (fun _ hk => hk.elim) ?aF ?aO ?aB ?aS ?aL ?_;(case aP => exact k79_mkM _ _ _ (⟨2, rdOf ByteArray.empty l1 x8_1⟩ : S79));(case aB => exact eB);(case aF => exact (fun _ _ => trivial));(case aO => exact (rK HO_6));(case aS => exact (below_size eB));(case aL => have := LMc44.out;omega);intro v195 w45 ho hb hg hat;rw [← Ny194.out] at ho;have n0_ := Aside0.mk (Kd.S_over' (sK HO_5) (Kd.R_typed (rK HO_6)) (by decide) hg);have n1_ := Aside0.mk (hb);have n2_ := Aside0.mk (ho);clear HO_5;clear HB;clear HO_6;have HO_5 := n0_;have HB := n1_;have HO196 := n2_;clear n0_ n1_ n2_;clear ho hb hg hat)))
                            go_roundg kj7
                            case measure => have := HK1.out;have := HJ4.out;have := HJ7.out;omega
                            case rel => exact ⟨(y194), (x7_1), (wrap64 (x8_1 + 1)), (by first|rfl|(simp only [i64_w, i32_w];done)|(simp only [i64_w, i32_w];rfl)|(simp;done)|(simp [*];done)), (by first|rfl|(simp only [i64_w, i32_w];done)|(simp only [i64_w, i32_w];rfl)|(simp;done)|(simp [*];done)), H', ⟨by have := HK1.out;have := HJ4.out;have := HJ7.out;omega⟩, ⟨by (with_reducible repeat (first|apply Kd.S_alloc|apply Kd.S_drewN|apply Kd.S_drew));exact HO_5.out⟩, ⟨by (with_reducible repeat first|apply rA|apply rN|apply rD);exact HO196.out⟩, ⟨eB⟩⟩
                          · rw [if_neg c44] at H;exact absurd H (by simp)
                        · rw [if_neg c43] at H;exact absurd H (by simp)
                      · rw [if_neg c42] at H;exact absurd H (by simp)
          · replace c7 := Bool.eq_false_iff.mpr c7;subst c7;have H1 : (some x6_1) = some r := (by rw [if_neg (show ¬ (false = true) by decide)] at H;exact H);clear H;have H := H1;clear H1;obtain rfl := Option.some.inj H
            go_wp2
            repeat (go_quiet (fail);try go_wp2)
            go_ret
            exact ⟨_, rW, by (with_reducible repeat first|apply rA|apply rN|apply rD);exact HO_6.out, eB⟩

/-! ### changeforgeref1_Script: function 25 -/
def changeforgeref1_Script.f (k : Nat) (l0 : List ByteArray) (l1 : List ByteArray) : Option ((List (S70))) := (changeforgeref1_Align.f k l0 l1).bind fun t198 => ((changeforgeref1_PatchOf.f t198).bind fun t201 => (some t201))
theorem changeforgeref1_Script.mono : ∀ a0 a1 k, LeO (changeforgeref1_Script.f k a0 a1) (changeforgeref1_Script.f (k + 1) a0 a1) := by
  intro a0 a1 k
  unfold changeforgeref1_Script.f
  repeat' first
      | (with_reducible exact changeforgeref1_Align.mono _ _ _)
      | (with_reducible exact LeO.refl _)
      | (with_reducible exact LeO.none _)
      | (with_reducible refine LeO.ite ?_ ?_)
      | (with_reducible refine LeO.bind ?_ (fun _ => ?_))
      | exact changeforgeref1_Align.mono _ _ _
      | exact LeO.none _
      | refine LeO.ite ?_ ?_
      | refine LeO.bind ?_ (fun _ => ?_)
set_option maxHeartbeats 8000000 in
set_option maxRecDepth 100000 in
theorem changeforgeref1_Script.calls (k : Nat) (A0 : Option Addr) (c0 : Nat) (l0 : List ByteArray) (A1 : Option Addr) (c1 : Nat) (l1 : List ByteArray) (r : List (S70)) (w : World) (hr0 : Kd.C Kd.string w A0 l0.length l0) (hc0 : l0.length ≤ c0) (hr1 : Kd.C Kd.string w A1 l1.length l1) (hc1 : l1.length ≤ c1) (h : changeforgeref1_Script.f k l0 l1 = some r) :
    Calls Try.prog 25 #[.slice A0 l0.length c0, .slice A1 l1.length c1] w fun e w' => ∃ v0_ : Value, e = .returned (.agg #[v0_]) ∧ Kd.S k70 70 w' w.heap.size (fun _ => True) v0_ r ∧ Below w.heap.size w w' := by
  have hu36 := Try.underlying36;have HR0 := Aside0.mk hr0;have HC0 := Aside0.mk hc0;clear hr0 hc0;have HR1 := Aside0.mk hr1;have HC1 := Aside0.mk hc1;clear hr1 hc1;have HB := Aside0.mk (Below.refl w.heap.size w);have H : ((changeforgeref1_Align.f k l0 l1).bind fun t198 => ((changeforgeref1_PatchOf.f t198).bind fun t201 => (some t201))) = some r := h;clear h;replace H := Option.bind_eq_some_iff.mp H;obtain ⟨t198, A30, H⟩ := H;replace H : ((changeforgeref1_PatchOf.f t198).bind fun t201 => (some t201)) = some r := H;have A3 := Aside0.mk A30;clear A30;replace H := Option.bind_eq_some_iff.mp H;obtain ⟨t201, A40, H⟩ := H;replace H : (some t201) = some r := H;have A4 := Aside0.mk A40;clear A40;obtain rfl := Option.some.inj H
  go_enter Try.func25, Try.ntmps25
  go_wp2_with (first|((with_reducible refine gate_dst (N := 4) rfl ?_);refine bE 4 #[.slice none 0 0] 36 ?_;intro gb197 hg w5 hbox hb;have BK197 := Aside0.mk (hbox);have GW197 := gBe HB hg;have GE197 := gBe HB hg;replace HB := sBe HB hb;clear hb hbox hg)|((with_reducible refine gate_callee (f := 52) rfl ?_);refine goesL_ (some 7) rfl rfl Try.func52 (by kernel_rfl) rfl #[.slice A0 l0.length c0, .slice A1 l1.length c1] rfl mA ?_;(with_reducible refine (changeforgeref1_Align.calls k _ _ l0 _ _ l1 t198 _ ?side1 ?side2 ?side3 ?side4 A3.out).mono ?_);(case side1 => exact cBe HR0);(case side2 => exact HC0.out);(case side3 => exact cBe HR1);(case side4 => exact HC1.out);rintro e w6 ⟨v199, rfl, ho0, hb⟩;refine ⟨_, rfl, ?_⟩;have HO200 := Aside0.mk (Kd.R_lower ho0 (below_size eB));replace BK197 := lJ BK197 hb;replace HB := sBe HB hb;(try clear hb ho0);obtain ⟨Ao7, co7, eo7⟩ := Kd.R_slice HO200.out;subst eo7)|((with_reducible refine gate_callee (f := 51) rfl ?_);refine goesL_ (some 8) rfl rfl Try.func51 (by kernel_rfl) rfl #[.slice Ao7 t198.length co7] rfl mA ?_;(with_reducible refine (changeforgeref1_PatchOf.calls _ _ t198 t201 _ ?side1 ?side2 A4.out).mono ?_);(case side1 => repeat (first|exact (Kd.R_reads' HO200.out).2.2|(with_reducible refine Kd.C_alloc ?_ _)|(with_reducible refine Kd.C_drewN ?_ _)|(with_reducible refine Kd.C_drew ?_)));(case side2 => exact (Kd.R_reads' HO200.out).2.1);rintro e w8 ⟨v202, rfl, ho0, hb⟩;refine ⟨_, rfl, ?_⟩;have HO203 := Aside0.mk (Kd.S_lower ho0 (below_size eB));replace HO200 := rL HO200 hb;replace BK197 := lJ BK197 hb;replace HB := sBe HB hb;(try clear hb ho0);obtain ⟨Ao9, co9, eo9⟩ := Kd.S_slice HO203.out;subst eo9;have hcz10_0 := hC BK197 0 (.slice none 0 0);have hfz10_0 := blk_frozen BK197.out 0))
  refine bodyPost_ret (results_cell_row rfl _ _ gb197 36 #[.slice Ao9 t201.length co9] (0, 0) _ rfl kK Try.underlying36 rfl (by kernel_rfl)) rfl ?_;exact ⟨_, rW, by (with_reducible repeat (first|apply Kd.S_alloc|apply Kd.S_drewN|apply Kd.S_drew));exact Kd.S_mono (Kd.S_far (p := ⟨gb197, 0, none⟩) (Kd.S_types HO203.out BK197.out (by decide)) (fun _ hk => hk.2) (.slice Ao9 t201.length co9)) (fun _ hk => trivial), eB⟩

/-! ### changeforgeref1_Kept: function 26 -/
def changeforgeref1_Kept.l0 : Nat → List ByteArray → List (S79) → Int → Option (List ByteArray)
  | 0, _, _, _ => none
  | k + 1, x5, x6, x7 => if x7 < (x6.length : Int) then (if 0 ≤ x7 then (if ((rd_T79 x6 x7).f0) = 0 then (if x5.length < 8796093022208 then (changeforgeref1_Kept.l0 k (x5 ++ [(rd_T79 x6 x7).f1]) x6 (wrap64 (x7 + 1))) else (none)) else (changeforgeref1_Kept.l0 k x5 x6 (wrap64 (x7 + 1)))) else (none)) else (some x5)
def changeforgeref1_Kept.f (k : Nat) (l0 : List ByteArray) (l1 : List ByteArray) : Option (List ByteArray) := (changeforgeref1_Align.f k l0 l1).bind fun t204 => (changeforgeref1_Kept.l0 k ([] : List ByteArray) t204 0)
theorem changeforgeref1_Kept.mono_l : ∀ k, (∀ y0 y1 y2, LeO (changeforgeref1_Kept.l0 k y0 y1 y2) (changeforgeref1_Kept.l0 (k + 1) y0 y1 y2))
  | 0 => fun _ _ _ r h => by simp [changeforgeref1_Kept.l0] at h
  | k + 1 => by
    have ih0 := changeforgeref1_Kept.mono_l k
    · intro y0 y1 y2
      unfold changeforgeref1_Kept.l0
      repeat' first
      | (with_reducible exact ih0 _ _ _)
      | (with_reducible exact changeforgeref1_Align.mono _ _ _)
      | (with_reducible exact LeO.refl _)
      | (with_reducible exact LeO.none _)
      | (with_reducible refine LeO.ite ?_ ?_)
      | (with_reducible refine LeO.bind ?_ (fun _ => ?_))
      | exact ih0 _ _ _
      | exact changeforgeref1_Align.mono _ _ _
      | exact LeO.none _
      | refine LeO.ite ?_ ?_
      | refine LeO.bind ?_ (fun _ => ?_)
theorem changeforgeref1_Kept.mono : ∀ a0 a1 k, LeO (changeforgeref1_Kept.f k a0 a1) (changeforgeref1_Kept.f (k + 1) a0 a1) := by
  intro a0 a1 k
  have ih0 := changeforgeref1_Kept.mono_l k
  unfold changeforgeref1_Kept.f
  repeat' first
      | (with_reducible exact ih0 _ _ _)
      | (with_reducible exact changeforgeref1_Align.mono _ _ _)
      | (with_reducible exact LeO.refl _)
      | (with_reducible exact LeO.none _)
      | (with_reducible refine LeO.ite ?_ ?_)
      | (with_reducible refine LeO.bind ?_ (fun _ => ?_))
      | exact ih0 _ _ _
      | exact changeforgeref1_Align.mono _ _ _
      | exact LeO.none _
      | refine LeO.ite ?_ ?_
      | refine LeO.bind ?_ (fun _ => ?_)
set_option maxHeartbeats 8000000 in
set_option maxRecDepth 100000 in
theorem changeforgeref1_Kept.calls (k : Nat) (A0 : Option Addr) (c0 : Nat) (l0 : List ByteArray) (A1 : Option Addr) (c1 : Nat) (l1 : List ByteArray) (r : List ByteArray) (w : World) (hr0 : Kd.C Kd.string w A0 l0.length l0) (hc0 : l0.length ≤ c0) (hr1 : Kd.C Kd.string w A1 l1.length l1) (hc1 : l1.length ≤ c1) (h : changeforgeref1_Kept.f k l0 l1 = some r) :
    Calls Try.prog 26 #[.slice A0 l0.length c0, .slice A1 l1.length c1] w fun e w' => ∃ v0_ : Value, e = .returned (v0_) ∧ Kd.R Kd.string 9 w' w.heap.size (fun _ => True) v0_ r ∧ Below w.heap.size w w' := by
  have HR0 := Aside0.mk hr0;have HC0 := Aside0.mk hc0;clear hr0 hc0;have HR1 := Aside0.mk hr1;have HC1 := Aside0.mk hc1;clear hr1 hc1;have HB := Aside0.mk (Below.refl w.heap.size w);have H : ((changeforgeref1_Align.f k l0 l1).bind fun t204 => (changeforgeref1_Kept.l0 k ([] : List ByteArray) t204 0)) = some r := h;clear h;replace H := Option.bind_eq_some_iff.mp H;obtain ⟨t204, A30, H⟩ := H;replace H : (changeforgeref1_Kept.l0 k ([] : List ByteArray) t204 0) = some r := H;have A3 := Aside0.mk A30;clear A30;have H' := Aside0.mk H;clear H
  go_enter Try.func26, Try.ntmps26
  go_wp2_with (first|((with_reducible refine gate_callee (f := 52) rfl ?_);refine goesL_ (some 10) rfl rfl Try.func52 (by kernel_rfl) rfl #[.slice A0 l0.length c0, .slice A1 l1.length c1] rfl mA ?_;(with_reducible refine (changeforgeref1_Align.calls k _ _ l0 _ _ l1 t204 _ ?side1 ?side2 ?side3 ?side4 A3.out).mono ?_);(case side1 => repeat (first|exact HR0.out|(with_reducible refine Kd.C_alloc ?_ _)|(with_reducible refine Kd.C_drewN ?_ _)|(with_reducible refine Kd.C_drew ?_)));(case side2 => exact HC0.out);(case side3 => repeat (first|exact HR1.out|(with_reducible refine Kd.C_alloc ?_ _)|(with_reducible refine Kd.C_drewN ?_ _)|(with_reducible refine Kd.C_drew ?_)));(case side4 => exact HC1.out);rintro e w4 ⟨v205, rfl, ho0, hb⟩;refine ⟨_, rfl, ?_⟩;have HO206 := Aside0.mk (Kd.R_lower ho0 (below_size eB));replace HB := sBe HB hb;(try clear hb ho0)))
  go_loopg [5, 7] k (fun kq v5 v7 w' => ∃ (x5_1 : List ByteArray) (x7_1 : Int), v7 = .int .i64 x7_1 ∧ Aside0 (changeforgeref1_Kept.l0 kq x5_1 t204 x7_1 = some r) ∧ Aside0 (kq ≤ k) ∧ Aside0 (Kd.R Kd.string 9 w' w.heap.size (fun _ => True) v5 x5_1) ∧ Aside0 (Kd.R k79 79 w' w.heap.size (fun _ => True) v205 t204) ∧ Aside0 (Below w.heap.size w w'))
  case atStart => exact ⟨(([] : List ByteArray)), (0), (by first|rfl|(simp only [i64_w, i32_w];done)|(simp only [i64_w, i32_w];rfl)|(simp;done)|(simp [*];done)), H', ⟨Nat.le_refl _⟩, ⟨by first|exact Kd.R_nil _ _ _ _ _|exact Kd.N_nil _ _ _ _ _|exact Kd.V_nil _ _ _ _ _|exact Kd.Q_nil _ _ _ _ _|exact Kd.S_nil _ _ _ _ _⟩, ⟨by (with_reducible repeat first|apply rA|apply rN|apply rD);exact HO206.out⟩, ⟨eB⟩⟩
  case round =>
    clear H'
    try clear c1
    try clear c2
    try clear p2
    obtain ⟨x5_1, x7_1, rfl, HA, HK1, HO_5, HO_6, HB⟩ := hrel
    cases gk with
    | zero => exact absurd HA.out (by simp [changeforgeref1_Kept.l0])
    | succ k1 =>
      have H := HA.out;clear HA;simp only [changeforgeref1_Kept.l0] at H
      by_cases c5 : x7_1 < (t204.length : Int)
      · rw [if_pos c5] at H;have c5b0 : decide (x7_1 < (t204.length : Int)) = true := decide_eq_true c5;clear c5
        by_cases c6 : 0 ≤ x7_1
        · rw [if_pos c6] at H;have c6b0 : decide (0 ≤ x7_1) = true := decide_eq_true c6;clear c6
          by_cases c7 : ((rd_T79 t204 x7_1).f0) = 0
          · rw [if_pos c7] at H;have c7b0 : (((rd_T79 t204 x7_1).f0) == 0) = true := beq_iff_eq.mpr c7;have c7b1 : (((rd_T79 t204 x7_1).f0) != 0) = false := bne_eq_false_iff_eq.mpr c7;clear c7
            by_cases c8 : x5_1.length < 8796093022208
            · rw [if_pos c8] at H;have LMc8 := Aside0.mk c8;clear c8;obtain ⟨y209, hy209⟩ : ∃ y_ : List ByteArray, y_ = (x5_1 ++ [(rd_T79 t204 x7_1).f1]) := ⟨_, rfl⟩;replace H : (changeforgeref1_Kept.l0 k1 y209 t204 (wrap64 (x7_1 + 1))) = some r := (by first|(rw [hy209];with_reducible exact H)|(have H2_ := (Option.bind_some _ _).symm.trans H;rw [hy209];with_reducible exact H2_)|(have H2_ := (Option.bind_some _ _).symm.trans H;with_reducible exact H2_)|with_reducible exact H|(rw [hy209];exact H)|exact H);have Ny209 := Aside0.mk hy209;clear hy209;have H' := Aside0.mk H;clear H;obtain ⟨Ao9, co9, eo9⟩ := Kd.R_slice HO_6.out;subst eo9;have p207 : 0 ≤ (x7_1 : Int) := dA;have q207 : x7_1 < (t204.length : Int) := dA;obtain ⟨ad207, e207, hx207_0, hx207_1⟩ := at_T79 (Kd.R_reads' HO_6.out).2.2 x7_1 p207 q207
              cases e207
              replace p207 := eq_true p207;replace q207 := eq_true q207;have p208 : 0 ≤ (x7_1 : Int) := dA;have q208 : x7_1 < (t204.length : Int) := dA;obtain ⟨ad208, e208, hx208_0, hx208_1⟩ := at_T79 (Kd.R_reads' HO_6.out).2.2 x7_1 p208 q208;obtain rfl : ad207 = ad208 := (by injection e208);replace p208 := eq_true p208;replace q208 := eq_true q208
              go_wp2_with (first|((with_reducible refine gate_builtin (b := .append) (xs := #[.tmp 23, .tmp 29]) rfl ?_);at_builtin;refine Kd.R_append Kd.string (w0 := w) w.heap.size rfl (.tmp 23) (.tmp 29) 22 9 (.string ⟨#[]⟩) 16 rfl Try.underlying22 info9 rfl (by decide) (by omega) u5 x5_1 ((rd_T79 t204 x7_1).f1) [.string ((rd_T79 t204 x7_1).f1)] (fun _ => True) (fun _ => False) rfl rfl ?aP (fun _ hk => hk.elim) ?aF ?aO ?aB ?aS ?aL ?_;(case aP => exact rfl);(case aB => exact eB);(case aF => exact (fun _ _ => trivial));(case aO => exact (rK HO_5));(case aS => exact (below_size eB));(case aL => have := LMc8.out;omega);intro v210 w10 ho hb hg hat;rw [← Ny209.out] at ho;have n0_ := Aside0.mk (Kd.R_over' (rK HO_6) (Kd.R_typed (rK HO_5)) (by decide) hg);have n1_ := Aside0.mk (hb);have n2_ := Aside0.mk (ho);clear HO_6;clear HB;clear HO_5;have HO_6 := n0_;have HB := n1_;have HO211 := n2_;clear n0_ n1_ n2_;clear ho hb hg hat))
              go_roundg k1
              case measure => have := HK1.out;omega
              case rel => exact ⟨(y209), (wrap64 (x7_1 + 1)), (by first|rfl|(simp only [i64_w, i32_w];done)|(simp only [i64_w, i32_w];rfl)|(simp;done)|(simp [*];done)), H', ⟨by have := HK1.out;omega⟩, ⟨by (with_reducible repeat first|apply rA|apply rN|apply rD);exact HO211.out⟩, ⟨by (with_reducible repeat first|apply rA|apply rN|apply rD);exact HO_6.out⟩, ⟨eB⟩⟩
            · rw [if_neg c8] at H;exact absurd H (by simp)
          · rw [if_neg c7] at H;have c7b0 : (((rd_T79 t204 x7_1).f0) == 0) = false := beq_eq_false_iff_ne.mpr c7;have c7b1 : (((rd_T79 t204 x7_1).f0) != 0) = true := bne_iff_ne.mpr c7;have H' := Aside0.mk H;clear H;obtain ⟨Ao11, co11, eo11⟩ := Kd.R_slice HO_6.out;subst eo11;have p207 : 0 ≤ (x7_1 : Int) := dA;have q207 : x7_1 < (t204.length : Int) := dA;obtain ⟨ad207, e207, hx207_0, hx207_1⟩ := at_T79 (Kd.R_reads' HO_6.out).2.2 x7_1 p207 q207
            cases e207
            replace p207 := eq_true p207;replace q207 := eq_true q207
            go_wp2
            go_roundg k1
            case measure => have := HK1.out;omega
            case rel => exact ⟨(x5_1), (wrap64 (x7_1 + 1)), (by first|rfl|(simp only [i64_w, i32_w];done)|(simp only [i64_w, i32_w];rfl)|(simp;done)|(simp [*];done)), H', ⟨by have := HK1.out;omega⟩, ⟨by (with_reducible repeat first|apply rA|apply rN|apply rD);exact HO_5.out⟩, ⟨by (with_reducible repeat first|apply rA|apply rN|apply rD);exact HO_6.out⟩, ⟨eB⟩⟩
        · rw [if_neg c6] at H;exact absurd H (by simp)
      · rw [if_neg c5] at H;have c5b0 : decide (x7_1 < (t204.length : Int)) = false := decide_eq_false c5;clear c5;obtain rfl := Option.some.inj H;obtain ⟨Ao12, co12, eo12⟩ := Kd.R_slice HO_6.out;subst eo12
        go_wp2
        go_ret
        exact ⟨_, rW, by (with_reducible repeat first|apply rA|apply rN|apply rD);exact HO_5.out, eB⟩

/-! ### changeforgelaw1_DiffMatchesSpec: function 6 -/
def changeforgelaw1_DiffMatchesSpec.j0 : Nat → List ByteArray → List ByteArray → Int → List ByteArray → Bool → List (S70) → Int → Int → Option (Bool)
  | 0, _, _, _, _, _, _, _, _ => none
  | k + 1, x0, x1, x5, x9, x45, x222000, x232000, x232001 => if x45 = true then (some false) else (if x232000 = 0 then ((changeforgeref1_Distance.f x0 x1).bind fun t233 => (if x5 = t233 then ((changeforgeref1_Script.f k x0 x1).bind fun t234 => ((changeforgeequal_Patch.f k x222000 t234).bind fun t237 => (if t237 = true then ((changeforgeref1_Kept.f k x0 x1).bind fun t238 => ((changeforgeequal_Strings.f x9 t238).bind fun t241 => (if t241 = true then ((changeforgelaw1_moved.f).bind fun t242 => (some t242)) else (some false)))) else (some false)))) else (some false))) else (if x5 = 0 then (if (x222000.length : Int) = 0 then (if (x9.length : Int) = 0 then ((changeforgelaw1_moved.f).bind fun t232 => (some t232)) else (some false)) else (some false)) else (some false)))
def changeforgelaw1_DiffMatchesSpec.f (k : Nat) (l0 : List ByteArray) (l1 : List ByteArray) : Option (Bool) := (diff_Distance.f l0 l1).bind fun bt212 => ((diff_Script.f l0 l1).bind fun bt216 => ((diff_Common.f l0 l1).bind fun bt223 => ((changeforgeref1_TwoFault.f l0 l1).bind fun bt229 => (if (!(bt212.2.1 == bt229.1) || (!(bt212.2.2 == bt229.2))) = true then (changeforgelaw1_DiffMatchesSpec.j0 k l0 l1 bt212.1 bt223.1 true bt216.1 bt229.1 bt229.2) else (if (!(bt216.2.1 == bt229.1) || (!(bt216.2.2 == bt229.2))) = true then (changeforgelaw1_DiffMatchesSpec.j0 k l0 l1 bt212.1 bt223.1 true bt216.1 bt229.1 bt229.2) else (changeforgelaw1_DiffMatchesSpec.j0 k l0 l1 bt212.1 bt223.1 (!(bt223.2.1 == bt229.1) || (!(bt223.2.2 == bt229.2))) bt216.1 bt229.1 bt229.2))))))
theorem changeforgelaw1_DiffMatchesSpec.mono_l : ∀ k, (∀ y0 y1 y2 y3 y4 y5 y6 y7, LeO (changeforgelaw1_DiffMatchesSpec.j0 k y0 y1 y2 y3 y4 y5 y6 y7) (changeforgelaw1_DiffMatchesSpec.j0 (k + 1) y0 y1 y2 y3 y4 y5 y6 y7))
  | 0 => fun _ _ _ _ _ _ _ _ r h => by simp [changeforgelaw1_DiffMatchesSpec.j0] at h
  | k + 1 => by
    have ih0 := changeforgelaw1_DiffMatchesSpec.mono_l k
    · intro y0 y1 y2 y3 y4 y5 y6 y7
      unfold changeforgelaw1_DiffMatchesSpec.j0
      repeat' first
      | (with_reducible exact ih0 _ _ _ _ _ _ _ _)
      | (with_reducible exact changeforgeequal_Patch.mono _ _ _)
      | (with_reducible exact changeforgeref1_Kept.mono _ _ _)
      | (with_reducible exact changeforgeref1_Script.mono _ _ _)
      | (with_reducible exact LeO.refl _)
      | (with_reducible exact LeO.none _)
      | (with_reducible refine LeO.ite ?_ ?_)
      | (with_reducible refine LeO.bind ?_ (fun _ => ?_))
      | exact ih0 _ _ _ _ _ _ _ _
      | exact changeforgeequal_Patch.mono _ _ _
      | exact changeforgeref1_Kept.mono _ _ _
      | exact changeforgeref1_Script.mono _ _ _
      | exact LeO.none _
      | refine LeO.ite ?_ ?_
      | refine LeO.bind ?_ (fun _ => ?_)
theorem changeforgelaw1_DiffMatchesSpec.mono : ∀ a0 a1 k, LeO (changeforgelaw1_DiffMatchesSpec.f k a0 a1) (changeforgelaw1_DiffMatchesSpec.f (k + 1) a0 a1) := by
  intro a0 a1 k
  have ih0 := changeforgelaw1_DiffMatchesSpec.mono_l k
  unfold changeforgelaw1_DiffMatchesSpec.f
  repeat' first
      | (with_reducible exact ih0 _ _ _ _ _ _ _ _)
      | (with_reducible exact changeforgeequal_Patch.mono _ _ _)
      | (with_reducible exact changeforgeref1_Kept.mono _ _ _)
      | (with_reducible exact changeforgeref1_Script.mono _ _ _)
      | (with_reducible exact LeO.refl _)
      | (with_reducible exact LeO.none _)
      | (with_reducible refine LeO.ite ?_ ?_)
      | (with_reducible refine LeO.bind ?_ (fun _ => ?_))
      | exact ih0 _ _ _ _ _ _ _ _
      | exact changeforgeequal_Patch.mono _ _ _
      | exact changeforgeref1_Kept.mono _ _ _
      | exact changeforgeref1_Script.mono _ _ _
      | exact LeO.none _
      | refine LeO.ite ?_ ?_
      | refine LeO.bind ?_ (fun _ => ?_)
def changeforgelaw1_DiffMatchesSpec.T9 : Bool × List (List Nat × List Nat) := (true, [([], []), ([], []), ([], []), ([1, 2], [1, 2]), ([0, 3], [0, 3]), ([4, 3], [4]), ([5], [5]), ([5], [5]), ([5], [5]), ([7, 8, 5, 5], [5, 7, 8]), ([6, 9, 9, 5], [5, 6, 9]), ([5, 10], [5, 10]), ([11, 10], [11]), ([12], [12]), ([12], [12]), ([12], [12]), ([14, 15, 12, 12], [12, 14, 15]), ([13, 16, 16, 12], [12, 13, 16]), ([12, 17], [12, 17]), ([18, 17], [18]), ([19, 19], [19]), ([19, 20], [19, 20]), ([21, 20, 0, 1, 2, 3, 4, 5, 6, 7, 8, 9, 10, 11, 12, 13, 14, 15, 16, 17, 18, 19, 20, 21], [21])])
def changeforgelaw1_DiffMatchesSpec.B9 : List Nat := [0, 0, 0, 6, 15, 31, 63, 63, 63, 447, 1023, 2047, 4095, 8191, 8191, 8191, 57343, 131071, 262143, 524287, 1048575, 2097151, 4194303]
theorem changeforgelaw1_DiffMatchesSpec.tab9 : rtab .any (opsOf Try.f6 9) = changeforgelaw1_DiffMatchesSpec.T9 := by kernel_rfl
theorem changeforgelaw1_DiffMatchesSpec.bits9 : waitsOk changeforgelaw1_DiffMatchesSpec.T9.2 changeforgelaw1_DiffMatchesSpec.B9 = true := by kernel_rfl
set_option maxHeartbeats 8000000 in
set_option maxRecDepth 100000 in
theorem changeforgelaw1_DiffMatchesSpec.calls (k : Nat) (A0 : Option Addr) (c0 : Nat) (l0 : List ByteArray) (A1 : Option Addr) (c1 : Nat) (l1 : List ByteArray) (r : Bool) (w : World) (hr0 : Kd.C Kd.string w A0 l0.length l0) (hc0 : l0.length ≤ c0) (hr1 : Kd.C Kd.string w A1 l1.length l1) (hc1 : l1.length ≤ c1) (h : changeforgelaw1_DiffMatchesSpec.f k l0 l1 = some r) (hrt : r = true) :
    Calls Try.prog 6 #[.slice A0 l0.length c0, .slice A1 l1.length c1] w fun e w' => e = .returned (.bool r) ∧ Below w.heap.size w w' := by
  have hu24 := Try.underlying24;have hu36 := Try.underlying36;have HR0 := Aside0.mk hr0;have HC0 := Aside0.mk hc0;clear hr0 hc0;have HR1 := Aside0.mk hr1;have HC1 := Aside0.mk hc1;clear hr1 hc1;have HB := Aside0.mk (Below.refl w.heap.size w);have H : ((diff_Distance.f l0 l1).bind fun bt212 => ((diff_Script.f l0 l1).bind fun bt216 => ((diff_Common.f l0 l1).bind fun bt223 => ((changeforgeref1_TwoFault.f l0 l1).bind fun bt229 => (if (!(bt212.2.1 == bt229.1) || (!(bt212.2.2 == bt229.2))) = true then (changeforgelaw1_DiffMatchesSpec.j0 k l0 l1 bt212.1 bt223.1 true bt216.1 bt229.1 bt229.2) else (if (!(bt216.2.1 == bt229.1) || (!(bt216.2.2 == bt229.2))) = true then (changeforgelaw1_DiffMatchesSpec.j0 k l0 l1 bt212.1 bt223.1 true bt216.1 bt229.1 bt229.2) else (changeforgelaw1_DiffMatchesSpec.j0 k l0 l1 bt212.1 bt223.1 (!(bt223.2.1 == bt229.1) || (!(bt223.2.2 == bt229.2))) bt216.1 bt229.1 bt229.2))))))) = some r := h;clear h;replace H := Option.bind_eq_some_iff.mp H;obtain ⟨⟨t212, t213, t214⟩, A30, H⟩ := H;replace H : ((diff_Script.f l0 l1).bind fun bt216 => ((diff_Common.f l0 l1).bind fun bt223 => ((changeforgeref1_TwoFault.f l0 l1).bind fun bt229 => (if (!(t213 == bt229.1) || (!(t214 == bt229.2))) = true then (changeforgelaw1_DiffMatchesSpec.j0 k l0 l1 t212 bt223.1 true bt216.1 bt229.1 bt229.2) else (if (!(bt216.2.1 == bt229.1) || (!(bt216.2.2 == bt229.2))) = true then (changeforgelaw1_DiffMatchesSpec.j0 k l0 l1 t212 bt223.1 true bt216.1 bt229.1 bt229.2) else (changeforgelaw1_DiffMatchesSpec.j0 k l0 l1 t212 bt223.1 (!(bt223.2.1 == bt229.1) || (!(bt223.2.2 == bt229.2))) bt216.1 bt229.1 bt229.2)))))) = some r := H;have A3 := Aside0.mk A30;clear A30;replace H := Option.bind_eq_some_iff.mp H;obtain ⟨⟨t216, t219, t220⟩, A40, H⟩ := H;replace H : ((diff_Common.f l0 l1).bind fun bt223 => ((changeforgeref1_TwoFault.f l0 l1).bind fun bt229 => (if (!(t213 == bt229.1) || (!(t214 == bt229.2))) = true then (changeforgelaw1_DiffMatchesSpec.j0 k l0 l1 t212 bt223.1 true t216 bt229.1 bt229.2) else (if (!(t219 == bt229.1) || (!(t220 == bt229.2))) = true then (changeforgelaw1_DiffMatchesSpec.j0 k l0 l1 t212 bt223.1 true t216 bt229.1 bt229.2) else (changeforgelaw1_DiffMatchesSpec.j0 k l0 l1 t212 bt223.1 (!(bt223.2.1 == bt229.1) || (!(bt223.2.2 == bt229.2))) t216 bt229.1 bt229.2))))) = some r := H;have A4 := Aside0.mk A40;clear A40;replace H := Option.bind_eq_some_iff.mp H;obtain ⟨⟨t223, t226, t227⟩, A50, H⟩ := H;replace H : ((changeforgeref1_TwoFault.f l0 l1).bind fun bt229 => (if (!(t213 == bt229.1) || (!(t214 == bt229.2))) = true then (changeforgelaw1_DiffMatchesSpec.j0 k l0 l1 t212 t223 true t216 bt229.1 bt229.2) else (if (!(t219 == bt229.1) || (!(t220 == bt229.2))) = true then (changeforgelaw1_DiffMatchesSpec.j0 k l0 l1 t212 t223 true t216 bt229.1 bt229.2) else (changeforgelaw1_DiffMatchesSpec.j0 k l0 l1 t212 t223 (!(t226 == bt229.1) || (!(t227 == bt229.2))) t216 bt229.1 bt229.2)))) = some r := H;have A5 := Aside0.mk A50;clear A50;replace H := Option.bind_eq_some_iff.mp H;obtain ⟨⟨t229, t230⟩, A60, H⟩ := H;replace H : (if (!(t213 == t229) || (!(t214 == t230))) = true then (changeforgelaw1_DiffMatchesSpec.j0 k l0 l1 t212 t223 true t216 t229 t230) else (if (!(t219 == t229) || (!(t220 == t230))) = true then (changeforgelaw1_DiffMatchesSpec.j0 k l0 l1 t212 t223 true t216 t229 t230) else (changeforgelaw1_DiffMatchesSpec.j0 k l0 l1 t212 t223 (!(t226 == t229) || (!(t227 == t230))) t216 t229 t230))) = some r := H;have A6 := Aside0.mk A60;clear A60;have HC7 := Aside0.mk H;clear H
  go_enter Try.func6, Try.ntmps6
  go_upto_region 5 with (first|((with_reducible refine gate_callee (f := 15) rfl ?_);refine goesL_ (some 15) rfl rfl Try.func15 (by kernel_rfl) rfl #[.slice A0 l0.length c0, .slice A1 l1.length c1] rfl mA ?_;(with_reducible refine (diff_Distance.calls _ _ l0 _ _ l1 t212 t213 t214 _ ?side1 ?side2 ?side3 ?side4 A3.out).mono ?_);(case side1 => repeat (first|exact HR0.out|(with_reducible refine Kd.C_alloc ?_ _)|(with_reducible refine Kd.C_drewN ?_ _)|(with_reducible refine Kd.C_drew ?_)));(case side2 => exact HC0.out);(case side3 => repeat (first|exact HR1.out|(with_reducible refine Kd.C_alloc ?_ _)|(with_reducible refine Kd.C_drewN ?_ _)|(with_reducible refine Kd.C_drew ?_)));(case side4 => exact HC1.out);rintro e w8 ⟨rfl, hb⟩;refine ⟨_, rfl, ?_⟩;replace HB := sBe HB hb;(try clear hb))|((with_reducible refine gate_dst (N := 6) rfl ?_);(try (refine gate_guard (by rfl) ?_;dsimp only));refine bE 6 #[.int .i64 0, .int .i64 0] 24 ?_;intro gb215 hg w9 hbox hb;have BK215 := Aside0.mk (hbox);have GW215 := gBe HB hg;have GE215 := gBe HB hg;replace HB := sBe HB hb;clear hb hbox hg;have hcz10_0 := hC BK215 0 (.int .i64 0);have hcz10_1 := hC BK215 1 (.int .i64 0);have hfz10_0 := blk_frozen BK215.out 0;have hfz10_1 := blk_frozen BK215.out 1)|((with_reducible refine gate_callee (f := 21) rfl ?_);refine goesL_ (some 21) rfl rfl Try.func21 (by kernel_rfl) rfl #[.slice A0 l0.length c0, .slice A1 l1.length c1] rfl mA ?_;(with_reducible refine (diff_Script.calls _ _ l0 _ _ l1 t216 t219 t220 _ ?side1 ?side2 ?side3 ?side4 A4.out).mono ?_);(case side1 => exact Kd.C_below HR0.out eB);(case side2 => exact HC0.out);(case side3 => exact Kd.C_below HR1.out eB);(case side4 => exact HC1.out);rintro e w11 ⟨v217, rfl, ho0, hb⟩;refine ⟨_, rfl, ?_⟩;have HO218 := Aside0.mk (Kd.S_lower ho0 (below_size eB));replace BK215 := lK gb215 24 #[.int .i64 t213, .int .i64 t214] hb;replace HB := sBe HB hb;(try clear hb ho0))|((with_reducible refine gate_dst (N := 7) rfl ?_);(try (refine gate_guard (by rfl) ?_;dsimp only));refine bE 7 #[.slice none 0 0] 36 ?_;intro gb221 hg w12 hbox hb;have BK221 := Aside0.mk (hbox);have GW221 := gBe HB hg;have GE221 := gBe HB hg;have NB215_221 := nL BK215 hg;have NB221_215 := nG BK215 hg;replace HO218 := Aside0.mk (Kd.S_below (sK HO218) hb);replace BK215 := lJ BK215 hb;replace HB := sBe HB hb;clear hb hbox hg)|((with_reducible refine gate_dst (N := 8) rfl ?_);(try (refine gate_guard (by rfl) ?_;dsimp only));refine bE 8 #[.int .i64 0, .int .i64 0] 24 ?_;intro gb222 hg w13 hbox hb;have BK222 := Aside0.mk (hbox);have GW222 := gBe HB hg;have GE222 := gBe HB hg;have NB215_222 := nL BK215 hg;have NB222_215 := nG BK215 hg;have NB221_222 := nL BK221 hg;have NB222_221 := nG BK221 hg;replace HO218 := Aside0.mk (Kd.S_below (sK HO218) hb);replace BK215 := lJ BK215 hb;replace BK221 := lJ BK221 hb;replace HB := sBe HB hb;clear hb hbox hg;obtain ⟨Ao14, co14, eo14⟩ := Kd.S_slice HO218.out;subst eo14;have hnb15 := eq_false NB221_215.out;have hnc15 := eq_false NB215_221.out;have hnb16 := eq_false NB221_222.out;have hnc16 := eq_false NB222_221.out;have hcz17_0 := hC BK221 0 (.slice none 0 0);have hfz17_0 := blk_frozen BK221.out 0;have hnb18 := eq_false NB222_215.out;have hnc18 := eq_false NB215_222.out;have hcz19_0 := hC BK222 0 (.int .i64 0);have hcz19_1 := hC BK222 1 (.int .i64 0);have hfz19_0 := blk_frozen BK222.out 0;have hfz19_1 := blk_frozen BK222.out 1)|((with_reducible refine gate_callee (f := 19) rfl ?_);refine goesL_ (some 27) rfl rfl Try.func19 (by kernel_rfl) rfl #[.slice A0 l0.length c0, .slice A1 l1.length c1] rfl mA ?_;(with_reducible refine (diff_Common.calls _ _ l0 _ _ l1 t223 t226 t227 _ ?side1 ?side2 ?side3 ?side4 A5.out).mono ?_);(case side1 => exact Kd.C_below HR0.out eB);(case side2 => exact HC0.out);(case side3 => exact Kd.C_below HR1.out eB);(case side4 => exact HC1.out);rintro e w20 ⟨v224, rfl, ho0, hb⟩;refine ⟨_, rfl, ?_⟩;have HO225 := Aside0.mk (Kd.R_lower ho0 (below_size eB));replace HO218 := Aside0.mk (Kd.S_elder' (by (with_reducible repeat (first|apply Kd.S_alloc|apply Kd.S_drewN|apply Kd.S_drew));exact (Kd.S_mono (Kd.S_mono (Kd.S_far (p := ⟨gb222, 1, none⟩) (Kd.S_far (p := ⟨gb222, 0, none⟩) (Kd.S_far (p := ⟨gb221, 0, none⟩) (Kd.S_types (Kd.S_types HO218.out BK221.out (by decide)) BK222.out (by decide)) (fun _ hk => hk.1.2) (.slice Ao14 t216.length co14)) (fun _ hk => hk.2) (.int .i64 t219)) (fun _ hk => hk.2) (.int .i64 t220)) (fun _ h_ => h_.1)) (fun _ h_ => h_.1))) (Kd.R_base ho0) hb);replace BK215 := lJ BK215 hb;replace BK221 := lK gb221 36 #[.slice Ao14 t216.length co14] hb;replace BK222 := lK gb222 24 #[.int .i64 t219, .int .i64 t220] hb;replace HB := sBe HB hb;(try clear hb ho0))|((with_reducible refine gate_dst (N := 10) rfl ?_);(try (refine gate_guard (by rfl) ?_;dsimp only));refine bE 10 #[.int .i64 0, .int .i64 0] 24 ?_;intro gb228 hg w21 hbox hb;have BK228 := Aside0.mk (hbox);have GW228 := gBe HB hg;have GE228 := gBe HB hg;have NB215_228 := nL BK215 hg;have NB228_215 := nG BK215 hg;have NB221_228 := nL BK221 hg;have NB228_221 := nG BK221 hg;have NB222_228 := nL BK222 hg;have NB228_222 := nG BK222 hg;replace HO218 := Aside0.mk (Kd.S_below (sK HO218) hb);replace HO225 := rL HO225 hb;replace BK215 := lJ BK215 hb;replace BK221 := lJ BK221 hb;replace BK222 := lJ BK222 hb;replace HB := sBe HB hb;clear hb hbox hg;have hnb22 := eq_false NB228_215.out;have hnc22 := eq_false NB215_228.out;have hnb23 := eq_false NB228_221.out;have hnc23 := eq_false NB221_228.out;have hnb24 := eq_false NB228_222.out;have hnc24 := eq_false NB222_228.out;have hcz25_0 := hC BK228 0 (.int .i64 0);have hcz25_1 := hC BK228 1 (.int .i64 0);have hfz25_0 := blk_frozen BK228.out 0;have hfz25_1 := blk_frozen BK228.out 1)|((with_reducible refine gate_callee (f := 22) rfl ?_);refine goesL_ (some 32) rfl rfl Try.func22 (by kernel_rfl) rfl #[.slice A0 l0.length c0, .slice A1 l1.length c1] rfl mA ?_;(with_reducible refine (changeforgeref1_TwoFault.calls _ _ l0 _ _ l1 t229 t230 _ ?side1 ?side2 ?side3 ?side4 A6.out).mono ?_);(case side1 => exact Kd.C_below HR0.out eB);(case side2 => exact HC0.out);(case side3 => exact Kd.C_below HR1.out eB);(case side4 => exact HC1.out);rintro e w26 ⟨rfl, hb⟩;refine ⟨_, rfl, ?_⟩;replace HO218 := Aside0.mk (Kd.S_below (by (with_reducible repeat (first|apply Kd.S_alloc|apply Kd.S_drewN|apply Kd.S_drew));exact (Kd.S_mono (Kd.S_far (p := ⟨gb228, 1, none⟩) (Kd.S_far (p := ⟨gb228, 0, none⟩) (Kd.S_types HO218.out BK228.out (by decide)) (fun _ hk => hk.2) (.int .i64 t226)) (fun _ hk => hk.2) (.int .i64 t227)) (fun _ h_ => h_.1))) hb);replace HO225 := Aside0.mk (Kd.R_below (by (with_reducible repeat first|apply rA|apply rN|apply rD);exact (Kd.R_mono (Kd.R_far (p := ⟨gb228, 1, none⟩) (Kd.R_far (p := ⟨gb228, 0, none⟩) (Kd.R_types HO225.out BK228.out (by decide)) (fun _ hk => hk.2) (.int .i64 t226)) (fun _ hk => hk.2) (.int .i64 t227)) (fun _ h_ => h_.1))) hb);replace BK215 := lJ BK215 hb;replace BK221 := lJ BK221 hb;replace BK222 := lJ BK222 hb;replace BK228 := lK gb228 24 #[.int .i64 t226, .int .i64 t227] hb;replace HB := sBe HB hb;(try clear hb))|((with_reducible refine gate_dst (N := 11) rfl ?_);(try (refine gate_guard (by rfl) ?_;dsimp only));refine bE 11 #[.int .i64 0, .int .i64 0] 24 ?_;intro gb231 hg w27 hbox hb;have BK231 := Aside0.mk (hbox);have GW231 := gBe HB hg;have GE231 := gBe HB hg;have NB215_231 := nL BK215 hg;have NB231_215 := nG BK215 hg;have NB221_231 := nL BK221 hg;have NB231_221 := nG BK221 hg;have NB222_231 := nL BK222 hg;have NB231_222 := nG BK222 hg;have NB228_231 := nL BK228 hg;have NB231_228 := nG BK228 hg;replace HO218 := Aside0.mk (Kd.S_below (sK HO218) hb);replace HO225 := rL HO225 hb;replace BK215 := lJ BK215 hb;replace BK221 := lJ BK221 hb;replace BK222 := lJ BK222 hb;replace BK228 := lJ BK228 hb;replace HB := sBe HB hb;clear hb hbox hg;have hnb28 := eq_false NB231_215.out;have hnc28 := eq_false NB215_231.out;have hnb29 := eq_false NB231_221.out;have hnc29 := eq_false NB221_231.out;have hnb30 := eq_false NB231_222.out;have hnc30 := eq_false NB222_231.out;have hnb31 := eq_false NB231_228.out;have hnc31 := eq_false NB228_231.out;have hcz32_0 := hC BK231 0 (.int .i64 0);have hcz32_1 := hC BK231 1 (.int .i64 0);have hfz32_0 := blk_frozen BK231.out 0;have hfz32_1 := blk_frozen BK231.out 1))
  (try simp only [Act.put, sA, sB, sC])
  go_cut [45] (fun v45 wc => ∃ (kq : Nat) (x45_6 : Bool), v45 = .bool x45_6 ∧ Aside0 (changeforgelaw1_DiffMatchesSpec.j0 kq l0 l1 t212 t223 x45_6 t216 t229 t230 = some r) ∧ Aside0 (kq ≤ k) ∧ Aside0 (Kd.R Kd.string 9 wc w.heap.size (fun _ => True) v224 t223) ∧ Aside0 (Kd.S k70 70 wc w.heap.size (fun k_ => some k_ ≠ (v224 : Value).ownBlock) (.slice Ao14 t216.length co14) t216) ∧ Aside0 (wc.heap[gb215]? = some (.cells #[.int .i64 t213, .int .i64 t214] 24 (0, 0))) ∧ Aside0 (wc.heap[gb221]? = some (.cells #[(.slice Ao14 t216.length co14)] 36 (0, 0))) ∧ Aside0 (wc.heap[gb222]? = some (.cells #[.int .i64 t219, .int .i64 t220] 24 (0, 0))) ∧ Aside0 (wc.heap[gb228]? = some (.cells #[.int .i64 t226, .int .i64 t227] 24 (0, 0))) ∧ Aside0 (wc.heap[gb231]? = some (.cells #[.int .i64 t229, .int .i64 t230] 24 (0, 0))) ∧ Aside0 (Below w.heap.size w wc))
  case first =>
    have H := HC7.out;clear HC7
    by_cases c33 : (!(t213 == t229) || (!(t214 == t230))) = true
    · rw [if_pos c33] at H;have c33b0 : (!(t213 == t229) || (!(t214 == t230))) = true := c33;clear c33
      (first|rw [c33b0]|(simp only [i64_w, i32_w];rw [c33b0])|skip)
      have H' := Aside0.mk H;clear H;have hnb34 := eq_false NB215_221.out;have hnc34 := eq_false NB221_215.out;have hnb35 := eq_false NB215_222.out;have hnc35 := eq_false NB222_215.out;have hnb36 := eq_false NB215_228.out;have hnc36 := eq_false NB228_215.out;have hnb37 := eq_false NB215_231.out;have hnc37 := eq_false NB231_215.out;have hcz38_0 := hC BK215 0 (.int .i64 t213);have hcz38_1 := hC BK215 1 (.int .i64 t214);have hfz38_0 := blk_frozen BK215.out 0;have hfz38_1 := blk_frozen BK215.out 1;have hnb39 := eq_false NB231_221.out;have hnc39 := eq_false NB221_231.out;have hnb40 := eq_false NB231_222.out;have hnc40 := eq_false NB222_231.out;have hnb41 := eq_false NB231_228.out;have hnc41 := eq_false NB228_231.out;have hcz42_0 := hC BK231 0 (.int .i64 0);have hcz42_1 := hC BK231 1 (.int .i64 0);have hfz42_0 := blk_frozen BK231.out 0;have hfz42_1 := blk_frozen BK231.out 1
      go_wp2
      go_meet
      case rel => exact ⟨_, (true), (by first|rfl|(simp only [i64_w, i32_w];done)|(simp only [i64_w, i32_w];rfl)|(simp;done)|(simp [*];done)), H', ⟨by first|omega|exact Nat.le_refl _⟩, ⟨by (with_reducible repeat first|apply rA|apply rN|apply rD);exact Kd.R_mono (Kd.R_far (p := ⟨gb231, 1, none⟩) (Kd.R_far (p := ⟨gb231, 0, none⟩) (Kd.R_types HO225.out BK231.out (by decide)) (fun _ hk => hk.2) (.int .i64 t229)) (fun _ hk => hk.2) (.int .i64 t230)) (fun _ hk => trivial)⟩, ⟨by (with_reducible repeat (first|apply Kd.S_alloc|apply Kd.S_drewN|apply Kd.S_drew));exact Kd.S_mono (Kd.S_far (p := ⟨gb231, 1, none⟩) (Kd.S_far (p := ⟨gb231, 0, none⟩) (Kd.S_types HO218.out BK231.out (by decide)) (fun _ hk => hk.2) (.int .i64 t229)) (fun _ hk => hk.2) (.int .i64 t230)) (fun _ hk => hk.1.2)⟩, ⟨kK⟩, ⟨kK⟩, ⟨kK⟩, ⟨kK⟩, ⟨kK⟩, ⟨eB⟩⟩
    · rw [if_neg c33] at H;have c33b0 : (!(t213 == t229) || (!(t214 == t230))) = false := (by simpa using c33);clear c33
      (first|rw [c33b0]|(simp only [i64_w, i32_w];rw [c33b0])|skip)
      by_cases c43 : (!(t219 == t229) || (!(t220 == t230))) = true
      · rw [if_pos c43] at H;have c43b0 : (!(t219 == t229) || (!(t220 == t230))) = true := c43;clear c43;have H' := Aside0.mk H;clear H;have hnb44 := eq_false NB215_221.out;have hnc44 := eq_false NB221_215.out;have hnb45 := eq_false NB215_222.out;have hnc45 := eq_false NB222_215.out;have hnb46 := eq_false NB215_228.out;have hnc46 := eq_false NB228_215.out;have hnb47 := eq_false NB215_231.out;have hnc47 := eq_false NB231_215.out;have hcz48_0 := hC BK215 0 (.int .i64 t213);have hcz48_1 := hC BK215 1 (.int .i64 t214);have hfz48_0 := blk_frozen BK215.out 0;have hfz48_1 := blk_frozen BK215.out 1;have hnb49 := eq_false NB231_221.out;have hnc49 := eq_false NB221_231.out;have hnb50 := eq_false NB231_222.out;have hnc50 := eq_false NB222_231.out;have hnb51 := eq_false NB231_228.out;have hnc51 := eq_false NB228_231.out;have hcz52_0 := hC BK231 0 (.int .i64 0);have hcz52_1 := hC BK231 1 (.int .i64 0);have hfz52_0 := blk_frozen BK231.out 0;have hfz52_1 := blk_frozen BK231.out 1;have hnb53 := eq_false NB222_221.out;have hnc53 := eq_false NB221_222.out;have hnb54 := eq_false NB222_228.out;have hnc54 := eq_false NB228_222.out;have hcz55_0 := hC BK222 0 (.int .i64 t219);have hcz55_1 := hC BK222 1 (.int .i64 t220);have hfz55_0 := blk_frozen BK222.out 0;have hfz55_1 := blk_frozen BK222.out 1
        go_wp2
        go_meet
        case rel => exact ⟨_, (true), (by first|rfl|(simp only [i64_w, i32_w];done)|(simp only [i64_w, i32_w];rfl)|(simp;done)|(simp [*];done)), H', ⟨by first|omega|exact Nat.le_refl _⟩, ⟨by (with_reducible repeat first|apply rA|apply rN|apply rD);exact Kd.R_mono (Kd.R_far (p := ⟨gb231, 1, none⟩) (Kd.R_far (p := ⟨gb231, 0, none⟩) (Kd.R_types HO225.out BK231.out (by decide)) (fun _ hk => hk.2) (.int .i64 t229)) (fun _ hk => hk.2) (.int .i64 t230)) (fun _ hk => trivial)⟩, ⟨by (with_reducible repeat (first|apply Kd.S_alloc|apply Kd.S_drewN|apply Kd.S_drew));exact Kd.S_mono (Kd.S_far (p := ⟨gb231, 1, none⟩) (Kd.S_far (p := ⟨gb231, 0, none⟩) (Kd.S_types HO218.out BK231.out (by decide)) (fun _ hk => hk.2) (.int .i64 t229)) (fun _ hk => hk.2) (.int .i64 t230)) (fun _ hk => hk.1.2)⟩, ⟨kK⟩, ⟨kK⟩, ⟨kK⟩, ⟨kK⟩, ⟨kK⟩, ⟨eB⟩⟩
      · rw [if_neg c43] at H;have c43b0 : (!(t219 == t229) || (!(t220 == t230))) = false := (by simpa using c43);clear c43;have H' := Aside0.mk H;clear H;have hnb56 := eq_false NB215_221.out;have hnc56 := eq_false NB221_215.out;have hnb57 := eq_false NB215_222.out;have hnc57 := eq_false NB222_215.out;have hnb58 := eq_false NB215_228.out;have hnc58 := eq_false NB228_215.out;have hnb59 := eq_false NB215_231.out;have hnc59 := eq_false NB231_215.out;have hcz60_0 := hC BK215 0 (.int .i64 t213);have hcz60_1 := hC BK215 1 (.int .i64 t214);have hfz60_0 := blk_frozen BK215.out 0;have hfz60_1 := blk_frozen BK215.out 1;have hnb61 := eq_false NB231_221.out;have hnc61 := eq_false NB221_231.out;have hnb62 := eq_false NB231_222.out;have hnc62 := eq_false NB222_231.out;have hnb63 := eq_false NB231_228.out;have hnc63 := eq_false NB228_231.out;have hcz64_0 := hC BK231 0 (.int .i64 0);have hcz64_1 := hC BK231 1 (.int .i64 0);have hfz64_0 := blk_frozen BK231.out 0;have hfz64_1 := blk_frozen BK231.out 1;have hnb65 := eq_false NB222_221.out;have hnc65 := eq_false NB221_222.out;have hnb66 := eq_false NB222_228.out;have hnc66 := eq_false NB228_222.out;have hcz67_0 := hC BK222 0 (.int .i64 t219);have hcz67_1 := hC BK222 1 (.int .i64 t220);have hfz67_0 := blk_frozen BK222.out 0;have hfz67_1 := blk_frozen BK222.out 1;have hnb68 := eq_false NB228_221.out;have hnc68 := eq_false NB221_228.out;have hcz69_0 := hC BK228 0 (.int .i64 t226);have hcz69_1 := hC BK228 1 (.int .i64 t227);have hfz69_0 := blk_frozen BK228.out 0;have hfz69_1 := blk_frozen BK228.out 1
        go_wp2
        go_meet
        case rel => exact ⟨_, ((!(t226 == t229) || (!(t227 == t230)))), (by first|rfl|(simp only [i64_w, i32_w];done)|(simp only [i64_w, i32_w];rfl)|(simp;done)|(simp [*];done)), H', ⟨by first|omega|exact Nat.le_refl _⟩, ⟨by (with_reducible repeat first|apply rA|apply rN|apply rD);exact Kd.R_mono (Kd.R_far (p := ⟨gb231, 1, none⟩) (Kd.R_far (p := ⟨gb231, 0, none⟩) (Kd.R_types HO225.out BK231.out (by decide)) (fun _ hk => hk.2) (.int .i64 t229)) (fun _ hk => hk.2) (.int .i64 t230)) (fun _ hk => trivial)⟩, ⟨by (with_reducible repeat (first|apply Kd.S_alloc|apply Kd.S_drewN|apply Kd.S_drew));exact Kd.S_mono (Kd.S_far (p := ⟨gb231, 1, none⟩) (Kd.S_far (p := ⟨gb231, 0, none⟩) (Kd.S_types HO218.out BK231.out (by decide)) (fun _ hk => hk.2) (.int .i64 t229)) (fun _ hk => hk.2) (.int .i64 t230)) (fun _ hk => hk.1.2)⟩, ⟨kK⟩, ⟨kK⟩, ⟨kK⟩, ⟨kK⟩, ⟨kK⟩, ⟨eB⟩⟩
  case rest =>
    clear HC7
    try clear c1
    try clear c2
    try clear p2
    try clear c3
    try clear c4
    try clear c5
    try clear c6
    try clear c15
    try clear c16
    try clear c18
    try clear c19
    try clear c21
    try clear c22
    try clear c23
    try clear c24
    try clear c28
    try clear c29
    try clear c30
    try clear c31
    try clear c33
    try clear c33b0
    try clear c34
    try clear c35
    try clear c36
    try clear c37
    try clear c39
    try clear c40
    try clear c41
    try clear c43
    try clear c43b0
    try clear c44
    try clear c45
    try clear c46
    try clear c47
    try clear c49
    try clear c50
    try clear c51
    try clear c53
    try clear c54
    try clear c56
    try clear c57
    try clear c58
    try clear c59
    try clear c61
    try clear c62
    try clear c63
    try clear c65
    try clear c66
    try clear c68
    try clear hcz10_0
    try clear hcz10_1
    try clear hcz17_0
    try clear hcz19_0
    try clear hcz19_1
    try clear hcz25_0
    try clear hcz25_1
    try clear hcz32_0
    try clear hcz32_1
    try clear hcz38_0
    try clear hcz38_1
    try clear hcz42_0
    try clear hcz42_1
    try clear hcz48_0
    try clear hcz48_1
    try clear hcz52_0
    try clear hcz52_1
    try clear hcz55_0
    try clear hcz55_1
    try clear hcz60_0
    try clear hcz60_1
    try clear hcz64_0
    try clear hcz64_1
    try clear hcz67_0
    try clear hcz67_1
    try clear hcz69_0
    try clear hcz69_1
    try clear hfz10_0
    try clear hfz10_1
    try clear hfz17_0
    try clear hfz19_0
    try clear hfz19_1
    try clear hfz25_0
    try clear hfz25_1
    try clear hfz32_0
    try clear hfz32_1
    try clear hfz38_0
    try clear hfz38_1
    try clear hfz42_0
    try clear hfz42_1
    try clear hfz48_0
    try clear hfz48_1
    try clear hfz52_0
    try clear hfz52_1
    try clear hfz55_0
    try clear hfz55_1
    try clear hfz60_0
    try clear hfz60_1
    try clear hfz64_0
    try clear hfz64_1
    try clear hfz67_0
    try clear hfz67_1
    try clear hfz69_0
    try clear hfz69_1
    obtain ⟨kq, x45_6, rfl, HA, HJ6, HO_9, HO_222000, BK215, BK221, BK222, BK228, BK231, HB⟩ := hcut
    cases kq with
    | zero => exact absurd HA.out (by simp [changeforgelaw1_DiffMatchesSpec.j0])
    | succ kj6 =>
      have H := HA.out;clear HA;simp only [changeforgelaw1_DiffMatchesSpec.j0] at H
      by_cases c70 : x45_6 = true
      · subst c70;have H1 : (some false) = some r := (by rw [if_pos rfl] at H;exact H);clear H;have H := H1;clear H1;obtain rfl := Option.some.inj H;exact absurd hrt (by decide)
      · replace c70 := Bool.eq_false_iff.mpr c70;subst c70;have H1 : (if t229 = 0 then ((changeforgeref1_Distance.f l0 l1).bind fun t233 => (if t212 = t233 then ((changeforgeref1_Script.f kj6 l0 l1).bind fun t234 => ((changeforgeequal_Patch.f kj6 t216 t234).bind fun t237 => (if t237 = true then ((changeforgeref1_Kept.f kj6 l0 l1).bind fun t238 => ((changeforgeequal_Strings.f t223 t238).bind fun t241 => (if t241 = true then ((changeforgelaw1_moved.f).bind fun t242 => (some t242)) else (some false)))) else (some false)))) else (some false))) else (if t212 = 0 then (if (t216.length : Int) = 0 then (if (t223.length : Int) = 0 then ((changeforgelaw1_moved.f).bind fun t232 => (some t232)) else (some false)) else (some false)) else (some false))) = some r := (by rw [if_neg (show ¬ (false = true) by decide)] at H;exact H);clear H;have H := H1;clear H1
        by_cases c71 : t229 = 0
        · rw [if_pos c71] at H;have c71b0 : (t229 == 0) = true := beq_iff_eq.mpr c71;have c71b1 : (t229 != 0) = false := bne_eq_false_iff_eq.mpr c71;clear c71;replace H := Option.bind_eq_some_iff.mp H;obtain ⟨t233, A720, H⟩ := H;replace H : (if t212 = t233 then ((changeforgeref1_Script.f kj6 l0 l1).bind fun t234 => ((changeforgeequal_Patch.f kj6 t216 t234).bind fun t237 => (if t237 = true then ((changeforgeref1_Kept.f kj6 l0 l1).bind fun t238 => ((changeforgeequal_Strings.f t223 t238).bind fun t241 => (if t241 = true then ((changeforgelaw1_moved.f).bind fun t242 => (some t242)) else (some false)))) else (some false)))) else (some false)) = some r := H;have A72 := Aside0.mk A720;clear A720
          by_cases c73 : t212 = t233
          · rw [if_pos c73] at H;have c73b0 : (t212 == t233) = true := beq_iff_eq.mpr c73;have c73b1 : (t212 != t233) = false := bne_eq_false_iff_eq.mpr c73;clear c73;replace H := Option.bind_eq_some_iff.mp H;obtain ⟨t234, A740, H⟩ := H;replace H : ((changeforgeequal_Patch.f kj6 t216 t234).bind fun t237 => (if t237 = true then ((changeforgeref1_Kept.f kj6 l0 l1).bind fun t238 => ((changeforgeequal_Strings.f t223 t238).bind fun t241 => (if t241 = true then ((changeforgelaw1_moved.f).bind fun t242 => (some t242)) else (some false)))) else (some false))) = some r := H;have A74 := Aside0.mk A740;clear A740;replace H := Option.bind_eq_some_iff.mp H;obtain ⟨t237, A750, H⟩ := H;replace H : (if t237 = true then ((changeforgeref1_Kept.f kj6 l0 l1).bind fun t238 => ((changeforgeequal_Strings.f t223 t238).bind fun t241 => (if t241 = true then ((changeforgelaw1_moved.f).bind fun t242 => (some t242)) else (some false)))) else (some false)) = some r := H;have A75 := Aside0.mk A750;clear A750
            by_cases c76 : t237 = true
            · subst c76;have H1 : ((changeforgeref1_Kept.f kj6 l0 l1).bind fun t238 => ((changeforgeequal_Strings.f t223 t238).bind fun t241 => (if t241 = true then ((changeforgelaw1_moved.f).bind fun t242 => (some t242)) else (some false)))) = some r := (by rw [if_pos rfl] at H;exact H);clear H;have H := H1;clear H1;replace H := Option.bind_eq_some_iff.mp H;obtain ⟨t238, A770, H⟩ := H;replace H : ((changeforgeequal_Strings.f t223 t238).bind fun t241 => (if t241 = true then ((changeforgelaw1_moved.f).bind fun t242 => (some t242)) else (some false))) = some r := H;have A77 := Aside0.mk A770;clear A770;replace H := Option.bind_eq_some_iff.mp H;obtain ⟨t241, A780, H⟩ := H;replace H : (if t241 = true then ((changeforgelaw1_moved.f).bind fun t242 => (some t242)) else (some false)) = some r := H;have A78 := Aside0.mk A780;clear A780
              by_cases c79 : t241 = true
              · subst c79;have H1 : ((changeforgelaw1_moved.f).bind fun t242 => (some t242)) = some r := (by rw [if_pos rfl] at H;exact H);clear H;have H := H1;clear H1;replace H := Option.bind_eq_some_iff.mp H;obtain ⟨t242, A800, H⟩ := H;replace H : (some t242) = some r := H;have A80 := Aside0.mk A800;clear A800;obtain rfl := Option.some.inj H;have hnb81 := eq_false NB231_215.out;have hnc81 := eq_false NB215_231.out;have hnb82 := eq_false NB231_221.out;have hnc82 := eq_false NB221_231.out;have hnb83 := eq_false NB231_222.out;have hnc83 := eq_false NB222_231.out;have hnb84 := eq_false NB231_228.out;have hnc84 := eq_false NB228_231.out;have hcz85_0 : wc.cell? ⟨gb231, 0, none⟩ = some (.int .i64 t229) := (blk_cell BK231.out 0).trans rfl;have hcz85_1 : wc.cell? ⟨gb231, 1, none⟩ = some (.int .i64 t230) := (blk_cell BK231.out 1).trans rfl;have hfz85_0 := blk_frozen BK231.out 0;have hfz85_1 := blk_frozen BK231.out 1
                try go_wp2
                replace HO_9 := Aside0.mk (Kd.R_drew HO_9.out);replace HO_222000 := Aside0.mk (Kd.S_drew HO_222000.out);replace BK215 := Aside0.mk (blk_drew BK215.out);replace BK221 := Aside0.mk (blk_drew BK221.out);replace BK222 := Aside0.mk (blk_drew BK222.out);replace BK228 := Aside0.mk (blk_drew BK228.out);replace BK231 := Aside0.mk (blk_drew BK231.out);replace HB := Aside0.mk (below_drew1 HB.out);refine start_ (n := 23) (S := fun w' => w'.cell? ⟨gb221, 0, none⟩ = some (.slice Ao14 t216.length co14)) (ds := []) (mb 23 0) (by kernel_rfl) rfl (by kernel_rfl) ((blk_cell BK221.out 0).trans rfl) (fun hHeld => ?_);refine with_tabW changeforgelaw1_DiffMatchesSpec.tab9 changeforgelaw1_DiffMatchesSpec.bits9 (fun HT_ HW_ => ?_);generalize wc.drew = w86 at HO_9 HO_222000 BK215 BK221 BK222 BK228 BK231 HB hHeld ⊢;refine pA 0 65 (mb 23 1) HT_ rfl rfl ?_;refine pA 1 66 (mb 23 3) HT_ rfl rfl ?_;refine pA 2 67 (mb 23 7) HT_ rfl rfl ?_;refine one_ (i := 3) (N := some 68) (mb 23 15) rfl rfl (one_of HT_.out (by kernel_rfl)) (by decide) (fun K hK => ?_);refine goes_ Try.func23 (by kernel_rfl) rfl #[.slice A0 l0.length c0, .slice A1 l1.length c1] (by rfl) rfl rfl mA ?_
                with_reducible refine (changeforgeref1_Distance.calls _ _ l0 _ _ l1 t233 _ ?side1 ?side2 ?side3 ?side4 A72.out).mono ?_
                (case side1 => exact cBe HR0);(case side2 => exact HC0.out);(case side3 => exact cBe HR1);(case side4 => exact HC1.out)
                rintro e w87 ⟨rfl, hb⟩
                refine ⟨_, rfl, ?_⟩;replace HO_9 := rL HO_9 hb;replace HO_222000 := Aside0.mk (Kd.S_below (sK HO_222000) hb);replace BK215 := lJ BK215 hb;replace BK221 := lJ BK221 hb;replace BK222 := lJ BK222 hb;replace BK228 := lJ BK228 hb;replace BK231 := lJ BK231 hb;replace HB := sBe HB hb;(try clear hb);refine hK.out _ _ ((blk_cell BK221.out 0).trans rfl) (fun hHeld => ?_);clear hK K;refine nmA (some 68) ?_;refine pA 4 69 (mb 23 31) HT_ rfl rfl ?_;refine pA 5 70 (mb 23 63) HT_ rfl rfl ?_;refine pA 7 72 (mb 23 191) HT_ rfl rfl ?_;refine pA 8 73 (mb 23 447) HT_ rfl rfl ?_;refine take_ (i := 6) (N := some 71) (v := ?_) (a' := ?_) (mb 23 511) rfl rfl (take_ofW HT_.out HW_.out (by kernel_rfl)) (fun _ _ _ h => h) (Or.inl ⟨by rfl, ?_⟩) hHeld ?_ ?_;rotate_left
                · intro w' s0
                  go_simp
                  with_reducible rfl
                rotate_left
                · simp only [Act.put, sA, sB, sC, i64_w, i32_w]
                  rfl
                refine one_ (i := 9) (N := some 74) (mb 23 1023) rfl rfl (one_of HT_.out (by kernel_rfl)) (by decide) (fun K hK => ?_);refine goes_ Try.func25 (by kernel_rfl) rfl #[.slice A0 l0.length c0, .slice A1 l1.length c1] (by rfl) rfl rfl mA ?_
                with_reducible refine (changeforgeref1_Script.calls kj6 _ _ l0 _ _ l1 t234 _ ?side1 ?side2 ?side3 ?side4 A74.out).mono ?_
                (case side1 => exact cBe HR0);(case side2 => exact HC0.out);(case side3 => exact cBe HR1);(case side4 => exact HC1.out)
                rintro e w88 ⟨v235, rfl, ho0, hb⟩
                refine ⟨_, rfl, ?_⟩;have HO236 := Aside0.mk (Kd.S_lower (Kd.S_new' (Kd.S_new' ho0 (Kd.R_lt (rK HO_9))) (Kd.S_lt (sK HO_222000))) (below_size eB));replace HO_9 := rL HO_9 hb;replace HO_222000 := Aside0.mk (Kd.S_elder' (sK HO_222000) (Kd.S_base ho0) hb);replace BK215 := lJ BK215 hb;replace BK221 := lJ BK221 hb;replace BK222 := lJ BK222 hb;replace BK228 := lJ BK228 hb;replace BK231 := lJ BK231 hb;replace HB := sBe HB hb;(try clear hb ho0);obtain ⟨Ao89, co89, eo89⟩ := Kd.S_slice HO236.out
                (first|subst eo89|(injection eo89 with f1_ f2_ f3_;have f4_ := f1_.symm;have f5_ := f3_.symm;clear f1_ f2_ f3_;subst f4_;subst f5_))
                refine hK.out _ _ ((blk_cell BK221.out 0).trans rfl) (fun hHeld => ?_);clear hK K;refine nmA (some 74) ?_;refine one_ (i := 10) (N := some 75) (mb 23 2047) rfl rfl (one_of HT_.out (by kernel_rfl)) (by decide) (fun K hK => ?_);refine goes_ Try.func24 (by kernel_rfl) rfl #[.agg #[.slice Ao14 t216.length co14], .agg #[.slice Ao89 t234.length co89]] (by rfl) rfl rfl mA ?_
                with_reducible refine (changeforgeequal_Patch.calls kj6 _ _ t216 _ _ t234 true _ ?side1 ?side2 ?side3 ?side4 A75.out).mono ?_
                (case side1 => repeat (first|exact (Kd.S_reads' HO_222000.out).2.2|(with_reducible refine Kd.C_alloc ?_ _)|(with_reducible refine Kd.C_drewN ?_ _)|(with_reducible refine Kd.C_drew ?_)));(case side2 => exact (Kd.S_reads' HO_222000.out).2.1);(case side3 => repeat (first|exact (Kd.S_reads' HO236.out).2.2|(with_reducible refine Kd.C_alloc ?_ _)|(with_reducible refine Kd.C_drewN ?_ _)|(with_reducible refine Kd.C_drew ?_)));(case side4 => exact (Kd.S_reads' HO236.out).2.1)
                rintro e w90 ⟨rfl, hb⟩
                refine ⟨_, rfl, ?_⟩;replace HO_9 := rL HO_9 hb;replace HO_222000 := Aside0.mk (Kd.S_below (sK HO_222000) hb);replace HO236 := Aside0.mk (Kd.S_below (sK HO236) hb);replace BK215 := lJ BK215 hb;replace BK221 := lJ BK221 hb;replace BK222 := lJ BK222 hb;replace BK228 := lJ BK228 hb;replace BK231 := lJ BK231 hb;replace HB := sBe HB hb;(try clear hb);refine hK.out _ _ ((blk_cell BK221.out 0).trans rfl) (fun hHeld => ?_);clear hK K;refine nmA (some 75) ?_;refine pA 11 76 (mb 23 4095) HT_ rfl rfl ?_;refine pA 12 77 (mb 23 8191) HT_ rfl rfl ?_;refine pA 13 78 (mb 23 16383) HT_ rfl rfl ?_;refine pA 14 79 (mb 23 32767) HT_ rfl rfl ?_;refine pA 15 80 (mb 23 65535) HT_ rfl rfl ?_;refine one_ (i := 16) (N := some 81) (mb 23 131071) rfl rfl (one_of HT_.out (by kernel_rfl)) (by decide) (fun K hK => ?_);refine goes_ Try.func26 (by kernel_rfl) rfl #[.slice A0 l0.length c0, .slice A1 l1.length c1] (by rfl) rfl rfl mA ?_
                with_reducible refine (changeforgeref1_Kept.calls kj6 _ _ l0 _ _ l1 t238 _ ?side1 ?side2 ?side3 ?side4 A77.out).mono ?_
                (case side1 => exact cBe HR0);(case side2 => exact HC0.out);(case side3 => exact cBe HR1);(case side4 => exact HC1.out)
                rintro e w91 ⟨v239, rfl, ho0, hb⟩
                refine ⟨_, rfl, ?_⟩;have HO240 := Aside0.mk (Kd.R_lower (Kd.R_new' ho0 (Kd.R_lt (rK HO_9))) (below_size eB));replace HO_9 := Aside0.mk (Kd.R_elder' (rK HO_9) (Kd.R_base ho0) hb);replace HO_222000 := Aside0.mk (Kd.S_elder' (sK HO_222000) (Kd.R_base ho0) hb);replace HO236 := Aside0.mk (Kd.S_elder' (sK HO236) (Kd.R_base ho0) hb);replace BK215 := lJ BK215 hb;replace BK221 := lJ BK221 hb;replace BK222 := lJ BK222 hb;replace BK228 := lJ BK228 hb;replace BK231 := lJ BK231 hb;replace HB := sBe HB hb;(try clear hb ho0);obtain ⟨Ao92, co92, eo92⟩ := Kd.R_slice HO_9.out
                (first|subst eo92|(injection eo92 with f1_ f2_ f3_;have f4_ := f1_.symm;have f5_ := f3_.symm;clear f1_ f2_ f3_;subst f4_;subst f5_))
                obtain ⟨Ao93, co93, eo93⟩ := Kd.R_slice HO240.out
                (first|subst eo93|(injection eo93 with f1_ f2_ f3_;have f4_ := f1_.symm;have f5_ := f3_.symm;clear f1_ f2_ f3_;subst f4_;subst f5_))
                refine hK.out _ _ ((blk_cell BK221.out 0).trans rfl) (fun hHeld => ?_);clear hK K;refine nmA (some 81) ?_;refine one_ (i := 17) (N := some 82) (mb 23 262143) rfl rfl (one_of HT_.out (by kernel_rfl)) (by decide) (fun K hK => ?_);refine goes_ Try.func17 (by kernel_rfl) rfl #[.slice Ao92 t223.length co92, .slice Ao93 t238.length co93] (by rfl) rfl rfl mA ?_
                with_reducible refine (changeforgeequal_Strings.calls _ _ t223 _ _ t238 true _ ?side1 ?side2 ?side3 ?side4 A78.out).mono ?_
                (case side1 => repeat (first|exact (Kd.R_reads' HO_9.out).2.2|(with_reducible refine Kd.C_alloc ?_ _)|(with_reducible refine Kd.C_drewN ?_ _)|(with_reducible refine Kd.C_drew ?_)));(case side2 => exact (Kd.R_reads' HO_9.out).2.1);(case side3 => repeat (first|exact (Kd.R_reads' HO240.out).2.2|(with_reducible refine Kd.C_alloc ?_ _)|(with_reducible refine Kd.C_drewN ?_ _)|(with_reducible refine Kd.C_drew ?_)));(case side4 => exact (Kd.R_reads' HO240.out).2.1)
                rintro e w' ⟨rfl, ⟨nd, rfl⟩⟩
                refine ⟨_, rfl, ?_⟩;refine hK.out _ _ ((blk_cell BK221.out 0).trans rfl) (fun hHeld => ?_);clear hK K;refine nmA (some 82) ?_;refine pA 18 83 (mb 23 524287) HT_ rfl rfl ?_;refine pA 19 84 (mb 23 1048575) HT_ rfl rfl ?_;refine one_ (i := 20) (N := some 85) (mb 23 2097151) rfl rfl (one_of HT_.out (by kernel_rfl)) (by decide) (fun K hK => ?_);refine goes_ Try.func16 (by kernel_rfl) rfl #[] (by rfl) rfl rfl mA ?_
                with_reducible refine (changeforgelaw1_moved.calls  t242 _ A80.out).mono ?_
                rintro e w94 ⟨rfl, hb⟩
                refine ⟨_, rfl, ?_⟩;replace HO_9 := rL HO_9 hb;replace HO_222000 := Aside0.mk (Kd.S_below (sK HO_222000) hb);replace HO236 := Aside0.mk (Kd.S_below (sK HO236) hb);replace HO240 := rL HO240 hb;replace BK215 := lJ BK215 hb;replace BK221 := lJ BK221 hb;replace BK222 := lJ BK222 hb;replace BK228 := lJ BK228 hb;replace BK231 := lJ BK231 hb;replace HB := sBe HB hb;(try clear hb);refine hK.out _ _ ((blk_cell BK221.out 0).trans rfl) (fun hHeld => ?_);clear hK K;refine nmA (some 85) ?_;refine pA 21 86 (mb 23 4194303) HT_ rfl rfl ?_;refine pA 22 4 (mb 23 8388607) HT_ rfl rfl ?_;refine done_ (done_of HT_.out (by kernel_rfl)) ?_
                try go_wp2
                go_ret
                exact ⟨rW, eB⟩
              · replace c79 := Bool.eq_false_iff.mpr c79;subst c79;have H1 : (some false) = some r := (by rw [if_neg (show ¬ (false = true) by decide)] at H;exact H);clear H;have H := H1;clear H1;obtain rfl := Option.some.inj H;exact absurd hrt (by decide)
            · replace c76 := Bool.eq_false_iff.mpr c76;subst c76;have H1 : (some false) = some r := (by rw [if_neg (show ¬ (false = true) by decide)] at H;exact H);clear H;have H := H1;clear H1;obtain rfl := Option.some.inj H;exact absurd hrt (by decide)
          · rw [if_neg c73] at H;have c73b0 : (t212 == t233) = false := beq_eq_false_iff_ne.mpr c73;have c73b1 : (t212 != t233) = true := bne_iff_ne.mpr c73;obtain rfl := Option.some.inj H;exact absurd hrt (by decide)
        · rw [if_neg c71] at H;have c71b0 : (t229 == 0) = false := beq_eq_false_iff_ne.mpr c71;have c71b1 : (t229 != 0) = true := bne_iff_ne.mpr c71
          by_cases c125 : t212 = 0
          · rw [if_pos c125] at H;have c125b0 : (t212 == 0) = true := beq_iff_eq.mpr c125;have c125b1 : (t212 != 0) = false := bne_eq_false_iff_eq.mpr c125;clear c125
            by_cases c126 : (t216.length : Int) = 0
            · rw [if_pos c126] at H;have c126b0 : ((t216.length : Int) == 0) = true := beq_iff_eq.mpr c126;have c126b1 : ((t216.length : Int) != 0) = false := bne_eq_false_iff_eq.mpr c126;clear c126
              by_cases c127 : (t223.length : Int) = 0
              · rw [if_pos c127] at H;have c127b0 : ((t223.length : Int) == 0) = true := beq_iff_eq.mpr c127;have c127b1 : ((t223.length : Int) != 0) = false := bne_eq_false_iff_eq.mpr c127;clear c127;replace H := Option.bind_eq_some_iff.mp H;obtain ⟨t232, A1280, H⟩ := H;replace H : (some t232) = some r := H;have A128 := Aside0.mk A1280;clear A1280;obtain rfl := Option.some.inj H;have hnb129 := eq_false NB231_215.out;have hnc129 := eq_false NB215_231.out;have hnb130 := eq_false NB231_221.out;have hnc130 := eq_false NB221_231.out;have hnb131 := eq_false NB231_222.out;have hnc131 := eq_false NB222_231.out;have hnb132 := eq_false NB231_228.out;have hnc132 := eq_false NB228_231.out;have hcz133_0 : wc.cell? ⟨gb231, 0, none⟩ = some (.int .i64 t229) := (blk_cell BK231.out 0).trans rfl;have hcz133_1 : wc.cell? ⟨gb231, 1, none⟩ = some (.int .i64 t230) := (blk_cell BK231.out 1).trans rfl;have hfz133_0 := blk_frozen BK231.out 0;have hfz133_1 := blk_frozen BK231.out 1;have hnb134 := eq_false NB221_215.out;have hnc134 := eq_false NB215_221.out;have hnb135 := eq_false NB221_222.out;have hnc135 := eq_false NB222_221.out;have hnb136 := eq_false NB221_228.out;have hnc136 := eq_false NB228_221.out;have hcz137_0 : wc.cell? ⟨gb221, 0, none⟩ = some (.slice Ao14 t216.length co14) := (blk_cell BK221.out 0).trans rfl;have hfz137_0 := blk_frozen BK221.out 0;obtain ⟨Ao138, co138, eo138⟩ := Kd.R_slice HO_9.out;subst eo138
                go_wp2_with (first|(go_at_call 16;(with_reducible refine (changeforgelaw1_moved.calls  t232 _ A128.out).mono ?_);rintro e w139 ⟨rfl, hb⟩;replace HO_9 := rL HO_9 hb;replace HO_222000 := Aside0.mk (Kd.S_below (sK HO_222000) hb);replace BK215 := lJ BK215 hb;replace BK221 := lJ BK221 hb;replace BK222 := lJ BK222 hb;replace BK228 := lJ BK228 hb;replace BK231 := lJ BK231 hb;replace HB := sBe HB hb;(try clear hb)))
                go_ret
                exact ⟨rW, eB⟩
              · rw [if_neg c127] at H;have c127b0 : ((t223.length : Int) == 0) = false := beq_eq_false_iff_ne.mpr c127;have c127b1 : ((t223.length : Int) != 0) = true := bne_iff_ne.mpr c127;have c127b2 : ¬ (t223 = []) := (fun h_ => c127 (by rw [h_];rfl));obtain rfl := Option.some.inj H;exact absurd hrt (by decide)
            · rw [if_neg c126] at H;have c126b0 : ((t216.length : Int) == 0) = false := beq_eq_false_iff_ne.mpr c126;have c126b1 : ((t216.length : Int) != 0) = true := bne_iff_ne.mpr c126;have c126b2 : ¬ (t216 = []) := (fun h_ => c126 (by rw [h_];rfl));obtain rfl := Option.some.inj H;exact absurd hrt (by decide)
          · rw [if_neg c125] at H;have c125b0 : (t212 == 0) = false := beq_eq_false_iff_ne.mpr c125;have c125b1 : (t212 != 0) = true := bne_iff_ne.mpr c125;obtain rfl := Option.some.inj H;exact absurd hrt (by decide)
/-- THE ONE PURE STATEMENT of changeforgelaw1_DiffMatchesSpec: yours. -/
def changeforgelaw1_DiffMatchesSpec.Pure : Prop := ∀ (l0 : List ByteArray) (l1 : List ByteArray), l0.length ≤ maxLen → l0.length * 16 ≤ 140737488351232 → (∀ x ∈ l0, x.size ≤ maxLen) → l1.length ≤ maxLen → l1.length * 16 ≤ 140737488351232 → (∀ x ∈ l1, x.size ≤ maxLen) → ∃ k, changeforgelaw1_DiffMatchesSpec.f k l0 l1 = some true
theorem changeforgelaw1_DiffMatchesSpec.walk (P : changeforgelaw1_DiffMatchesSpec.Pure) (A0 : Option Addr) (c0 : Nat) (l0 : List ByteArray) (A1 : Option Addr) (c1 : Nat) (l1 : List ByteArray) (w : World) (hr0 : Kd.C Kd.string w A0 l0.length l0) (hc0 : l0.length ≤ c0) (hm0 : l0.length ≤ maxLen) (hs0 : l0.length * 16 ≤ 140737488351232) (he0 : ∀ x ∈ l0, x.size ≤ maxLen) (hr1 : Kd.C Kd.string w A1 l1.length l1) (hc1 : l1.length ≤ c1) (hm1 : l1.length ≤ maxLen) (hs1 : l1.length * 16 ≤ 140737488351232) (he1 : ∀ x ∈ l1, x.size ≤ maxLen) :
    Calls Try.prog 6 #[.slice A0 l0.length c0, .slice A1 l1.length c1] w fun e w' => e = .returned (.bool true) ∧ Below w.heap.size w w' := by
  obtain ⟨k, h⟩ := P l0 l1 hm0 hs0 he0 hm1 hs1 he1;refine (changeforgelaw1_DiffMatchesSpec.calls k _ _ l0 _ _ l1 true w hr0 hc0 hr1 hc1 h rfl).mono ?_
  rintro e w' ⟨rfl, hd⟩
  exact ⟨rfl, hd⟩

end Go.Proofs.Ytifkadmljokffaa.PB
