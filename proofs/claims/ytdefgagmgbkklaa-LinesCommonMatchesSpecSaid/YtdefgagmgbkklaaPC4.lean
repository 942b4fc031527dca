/- Printed by a program of this session out of the translation: Lean functions for Go functions, and proofs that the Go functions answer the same. -/
import Derived.Test.YtdefgagmgbkklaaPC0
import Derived.Test.YtdefgagmgbkklaaPC1
import Derived.Test.YtdefgagmgbkklaaPC2
import Derived.Test.YtdefgagmgbkklaaPC3
namespace Go.Proofs.Ytdefgagmgbkklaa.PC
open Go.RowKit Go.Proofs.Ytdefgagmgbkklaa.Pre Go.Proofs.YtdefgagmgbkklaaW.PrintWords Go.Proofs.YtdefgagmgbkklaaW.PrintLast Go.Proofs.YtdefgagmgbkklaaW.PrintMore
attribute [local go_sem] max2_int min2_int max_two min_two max_three min_three max_four min_four   -- for this text's walks alone
set_option linter.unusedVariables false
set_option linter.unusedSimpArgs false

attribute [local go_sem high] eqA24
/-! ### changeforgelaw1_LinesCommonMatchesSpec: function 13 -/
mutual
def changeforgelaw1_LinesCommonMatchesSpec.j0 : Nat → List ByteArray → List ByteArray → Int → Int → Bool → Option (Bool)
  | 0, _, _, _, _, _ => none
  | k + 1, x0, x1, x5, x6, x63 => if x63 = true then (some false) else (if 0 ≤ x5 then (if x5 ≤ (x0.length : Int) then (if x5 ≤ (x1.length : Int) then ((changeforgeequal_Strings.f (x0.take (x5 : Int).toNat) (x1.take (x5 : Int).toNat)).bind fun t170 => (if t170 = true then (if 0 ≤ (wrap64 ((x0.length : Int) - x6)) then (if (wrap64 ((x0.length : Int) - x6)) ≤ (x0.length : Int) then (if 0 ≤ (wrap64 ((x1.length : Int) - x6)) then (if (wrap64 ((x1.length : Int) - x6)) ≤ (x1.length : Int) then ((changeforgeequal_Strings.f (x0.drop ((wrap64 ((x0.length : Int) - x6)) : Int).toNat) (x1.drop ((wrap64 ((x1.length : Int) - x6)) : Int).toNat)).bind fun t173 => (changeforgelaw1_LinesCommonMatchesSpec.j1 k x0 x1 x5 x6 (!t173))) else (none)) else (none)) else (none)) else (none)) else (changeforgelaw1_LinesCommonMatchesSpec.j1 k x0 x1 x5 x6 true))) else (none)) else (none)) else (none))
def changeforgelaw1_LinesCommonMatchesSpec.j1 : Nat → List ByteArray → List ByteArray → Int → Int → Bool → Option (Bool)
  | 0, _, _, _, _, _ => none
  | k + 1, x0, x1, x5, x6, x87 => if x87 = true then (some false) else (if x5 < (x0.length : Int) then (if x5 < (x1.length : Int) then (if 0 ≤ x5 then (changeforgelaw1_LinesCommonMatchesSpec.j2 k x0 x1 x5 x6 ((rdOf ByteArray.empty x0 x5).toList == (rdOf ByteArray.empty x1 x5).toList)) else (none)) else (changeforgelaw1_LinesCommonMatchesSpec.j2 k x0 x1 x5 x6 false)) else (changeforgelaw1_LinesCommonMatchesSpec.j2 k x0 x1 x5 x6 false))
def changeforgelaw1_LinesCommonMatchesSpec.j2 : Nat → List ByteArray → List ByteArray → Int → Int → Bool → Option (Bool)
  | 0, _, _, _, _, _ => none
  | k + 1, x0, x1, x5, x6, x108 => if x108 = true then (some false) else (if (wrap64 (x5 + x6)) < (x0.length : Int) then (changeforgelaw1_LinesCommonMatchesSpec.j3 k x0 x1 x6 (decide ((wrap64 (x5 + x6)) < (x1.length : Int)))) else (changeforgelaw1_LinesCommonMatchesSpec.j3 k x0 x1 x6 false))
def changeforgelaw1_LinesCommonMatchesSpec.j3 : Nat → List ByteArray → List ByteArray → Int → Bool → Option (Bool)
  | 0, _, _, _, _ => none
  | k + 1, x0, x1, x6, x9 => if x9 = true then (if 0 ≤ (wrap64 ((wrap64 ((x0.length : Int) - x6)) - 1)) then (if (wrap64 ((wrap64 ((x0.length : Int) - x6)) - 1)) < (x0.length : Int) then (if 0 ≤ (wrap64 ((wrap64 ((x1.length : Int) - x6)) - 1)) then (if (wrap64 ((wrap64 ((x1.length : Int) - x6)) - 1)) < (x1.length : Int) then (if (rdOf ByteArray.empty x0 (wrap64 ((wrap64 ((x0.length : Int) - x6)) - 1))).toList = (rdOf ByteArray.empty x1 (wrap64 ((wrap64 ((x1.length : Int) - x6)) - 1))).toList then (some false) else ((changeforgelaw1_pair.f).bind fun t178 => (some t178))) else (none)) else (none)) else (none)) else (none)) else ((changeforgelaw1_pair.f).bind fun t179 => (some t179))
end
def changeforgelaw1_LinesCommonMatchesSpec.f (k : Nat) (l0 : List ByteArray) (l1 : List ByteArray) : Option (Bool) := (lines_Common.f l0 l1).bind fun bt159 => ((changeforgeref1_TwoFault.f l0 l1).bind fun bt164 => (if bt164.1 = 0 then (if bt159.2.2.1 = 0 then (if bt159.1 < 0 then (changeforgelaw1_LinesCommonMatchesSpec.j0 k l0 l1 bt159.1 bt159.2.1 true) else (if bt159.2.1 < 0 then (changeforgelaw1_LinesCommonMatchesSpec.j0 k l0 l1 bt159.1 bt159.2.1 true) else (if (wrap64 (bt159.1 + bt159.2.1)) > (l0.length : Int) then (changeforgelaw1_LinesCommonMatchesSpec.j0 k l0 l1 bt159.1 bt159.2.1 true) else (changeforgelaw1_LinesCommonMatchesSpec.j0 k l0 l1 bt159.1 bt159.2.1 (decide ((wrap64 (bt159.1 + bt159.2.1)) > (l1.length : Int))))))) else (changeforgelaw1_LinesCommonMatchesSpec.j0 k l0 l1 bt159.1 bt159.2.1 true)) else (if (bt159.2.2.1 == bt164.1 && (bt159.2.2.2 == bt164.2)) = true then (if bt159.1 = 0 then (if bt159.2.1 = 0 then ((changeforgelaw1_pair.f).bind fun t167 => (some t167)) else (some false)) else (some false)) else (some false))))
theorem changeforgelaw1_LinesCommonMatchesSpec.mono_l : ∀ k, (∀ y0 y1 y2 y3 y4, LeO (changeforgelaw1_LinesCommonMatchesSpec.j0 k y0 y1 y2 y3 y4) (changeforgelaw1_LinesCommonMatchesSpec.j0 (k + 1) y0 y1 y2 y3 y4)) ∧ (∀ y0 y1 y2 y3 y4, LeO (changeforgelaw1_LinesCommonMatchesSpec.j1 k y0 y1 y2 y3 y4) (changeforgelaw1_LinesCommonMatchesSpec.j1 (k + 1) y0 y1 y2 y3 y4)) ∧ (∀ y0 y1 y2 y3 y4, LeO (changeforgelaw1_LinesCommonMatchesSpec.j2 k y0 y1 y2 y3 y4) (changeforgelaw1_LinesCommonMatchesSpec.j2 (k + 1) y0 y1 y2 y3 y4)) ∧ (∀ y0 y1 y2 y3, LeO (changeforgelaw1_LinesCommonMatchesSpec.j3 k y0 y1 y2 y3) (changeforgelaw1_LinesCommonMatchesSpec.j3 (k + 1) y0 y1 y2 y3))
  | 0 => ⟨fun _ _ _ _ _ r h => by simp [changeforgelaw1_LinesCommonMatchesSpec.j0] at h, fun _ _ _ _ _ r h => by simp [changeforgelaw1_LinesCommonMatchesSpec.j1] at h, fun _ _ _ _ _ r h => by simp [changeforgelaw1_LinesCommonMatchesSpec.j2] at h, fun _ _ _ _ r h => by simp [changeforgelaw1_LinesCommonMatchesSpec.j3] at h⟩
  | k + 1 => by
    obtain ⟨ih0, ih1, ih2, ih3⟩ := changeforgelaw1_LinesCommonMatchesSpec.mono_l k;refine ⟨?_, ?_, ?_, ?_⟩
    · intro y0 y1 y2 y3 y4
      unfold changeforgelaw1_LinesCommonMatchesSpec.j0
      repeat' first
      | (with_reducible exact ih0 _ _ _ _ _)
      | (with_reducible exact ih1 _ _ _ _ _)
      | (with_reducible exact ih2 _ _ _ _ _)
      | (with_reducible exact ih3 _ _ _ _)
      | (with_reducible exact LeO.refl _)
      | (with_reducible exact LeO.none _)
      | (with_reducible refine LeO.ite ?_ ?_)
      | (with_reducible refine LeO.bind ?_ (fun _ => ?_))
      | exact ih0 _ _ _ _ _
      | exact ih1 _ _ _ _ _
      | exact ih2 _ _ _ _ _
      | exact ih3 _ _ _ _
      | exact LeO.none _
      | refine LeO.ite ?_ ?_
      | refine LeO.bind ?_ (fun _ => ?_)
    · intro y0 y1 y2 y3 y4
      unfold changeforgelaw1_LinesCommonMatchesSpec.j1
      repeat' first
      | (with_reducible exact ih0 _ _ _ _ _)
      | (with_reducible exact ih1 _ _ _ _ _)
      | (with_reducible exact ih2 _ _ _ _ _)
      | (with_reducible exact ih3 _ _ _ _)
      | (with_reducible exact LeO.refl _)
      | (with_reducible exact LeO.none _)
      | (with_reducible refine LeO.ite ?_ ?_)
      | (with_reducible refine LeO.bind ?_ (fun _ => ?_))
      | exact ih0 _ _ _ _ _
      | exact ih1 _ _ _ _ _
      | exact ih2 _ _ _ _ _
      | exact ih3 _ _ _ _
      | exact LeO.none _
      | refine LeO.ite ?_ ?_
      | refine LeO.bind ?_ (fun _ => ?_)
    · intro y0 y1 y2 y3 y4
      unfold changeforgelaw1_LinesCommonMatchesSpec.j2
      repeat' first
      | (with_reducible exact ih0 _ _ _ _ _)
      | (with_reducible exact ih1 _ _ _ _ _)
      | (with_reducible exact ih2 _ _ _ _ _)
      | (with_reducible exact ih3 _ _ _ _)
      | (with_reducible exact LeO.refl _)
      | (with_reducible exact LeO.none _)
      | (with_reducible refine LeO.ite ?_ ?_)
      | (with_reducible refine LeO.bind ?_ (fun _ => ?_))
      | exact ih0 _ _ _ _ _
      | exact ih1 _ _ _ _ _
      | exact ih2 _ _ _ _ _
      | exact ih3 _ _ _ _
      | exact LeO.none _
      | refine LeO.ite ?_ ?_
      | refine LeO.bind ?_ (fun _ => ?_)
    · intro y0 y1 y2 y3
      unfold changeforgelaw1_LinesCommonMatchesSpec.j3
      repeat' first
      | (with_reducible exact ih0 _ _ _ _ _)
      | (with_reducible exact ih1 _ _ _ _ _)
      | (with_reducible exact ih2 _ _ _ _ _)
      | (with_reducible exact ih3 _ _ _ _)
      | (with_reducible exact LeO.refl _)
      | (with_reducible exact LeO.none _)
      | (with_reducible refine LeO.ite ?_ ?_)
      | (with_reducible refine LeO.bind ?_ (fun _ => ?_))
      | exact ih0 _ _ _ _ _
      | exact ih1 _ _ _ _ _
      | exact ih2 _ _ _ _ _
      | exact ih3 _ _ _ _
      | exact LeO.none _
      | refine LeO.ite ?_ ?_
      | refine LeO.bind ?_ (fun _ => ?_)
theorem changeforgelaw1_LinesCommonMatchesSpec.mono : ∀ a0 a1 k, LeO (changeforgelaw1_LinesCommonMatchesSpec.f k a0 a1) (changeforgelaw1_LinesCommonMatchesSpec.f (k + 1) a0 a1) := by
  intro a0 a1 k
  obtain ⟨ih0, ih1, ih2, ih3⟩ := changeforgelaw1_LinesCommonMatchesSpec.mono_l k
  unfold changeforgelaw1_LinesCommonMatchesSpec.f
  repeat' first
      | (with_reducible exact ih0 _ _ _ _ _)
      | (with_reducible exact ih1 _ _ _ _ _)
      | (with_reducible exact ih2 _ _ _ _ _)
      | (with_reducible exact ih3 _ _ _ _)
      | (with_reducible exact LeO.refl _)
      | (with_reducible exact LeO.none _)
      | (with_reducible refine LeO.ite ?_ ?_)
      | (with_reducible refine LeO.bind ?_ (fun _ => ?_))
      | exact ih0 _ _ _ _ _
      | exact ih1 _ _ _ _ _
      | exact ih2 _ _ _ _ _
      | exact ih3 _ _ _ _
      | exact LeO.none _
      | refine LeO.ite ?_ ?_
      | refine LeO.bind ?_ (fun _ => ?_)
def changeforgelaw1_LinesCommonMatchesSpec.T7 : Bool × List (List Nat × List Nat) := (true, [([], []), ([], []), ([0, 1], [0, 1]), ([], []), ([], []), ([3, 4], [3, 4]), ([2, 5], [2, 5]), ([6], [6]), ([7, 6], [7]), ([8], [8]), ([8], [8]), ([10, 8], [8, 10]), ([8], [8]), ([11, 12, 8], [8, 11, 12]), ([9, 13, 8], [8, 9, 13]), ([8], [8]), ([8], [8]), ([16, 8], [8, 16]), ([8], [8]), ([17, 18, 8], [8, 17, 18]), ([15, 19, 8], [8, 15, 19]), ([14, 20, 8, 8], [8, 14, 20]), ([21, 8], [8, 21]), ([8, 22], [8, 22])])
def changeforgelaw1_LinesCommonMatchesSpec.B7 : List Nat := [0, 0, 3, 0, 0, 24, 63, 127, 255, 511, 511, 1535, 511, 7679, 16383, 511, 511, 66047, 511, 459263, 1016319, 2097151, 4194303, 8388607]
theorem changeforgelaw1_LinesCommonMatchesSpec.tab7 : rtab .any (opsOf Try.f13 7) = changeforgelaw1_LinesCommonMatchesSpec.T7 := by kernel_rfl
theorem changeforgelaw1_LinesCommonMatchesSpec.bits7 : waitsOk changeforgelaw1_LinesCommonMatchesSpec.T7.2 changeforgelaw1_LinesCommonMatchesSpec.B7 = true := by kernel_rfl
def changeforgelaw1_LinesCommonMatchesSpec.T9 : Bool × List (List Nat × List Nat) := (true, [([], []), ([], []), ([1], [1]), ([0, 2], [0, 2]), ([3], [3]), ([4], [4]), ([4], [4]), ([6, 4], [4, 6]), ([5, 7, 4], [4, 5, 7]), ([4, 8], [4, 8]), ([9, 4], [9]), ([10], [10]), ([10], [10]), ([11, 12, 10], [10, 11, 12]), ([13, 10], [10, 13]), ([10], [10]), ([10], [10]), ([15, 16, 10], [10, 15, 16]), ([17, 10], [10, 17]), ([14, 18, 10], [10, 14, 18]), ([10, 19], [10, 19])])
def changeforgelaw1_LinesCommonMatchesSpec.B9 : List Nat := [0, 0, 2, 7, 15, 31, 31, 95, 255, 511, 1023, 2047, 2047, 8191, 16383, 2047, 2047, 100351, 231423, 524287, 1048575]
theorem changeforgelaw1_LinesCommonMatchesSpec.tab9 : rtab .any (opsOf Try.f13 9) = changeforgelaw1_LinesCommonMatchesSpec.T9 := by kernel_rfl
theorem changeforgelaw1_LinesCommonMatchesSpec.bits9 : waitsOk changeforgelaw1_LinesCommonMatchesSpec.T9.2 changeforgelaw1_LinesCommonMatchesSpec.B9 = true := by kernel_rfl
def changeforgelaw1_LinesCommonMatchesSpec.T12 : Bool × List (List Nat × List Nat) := (true, [([], []), ([0], [0]), ([1], [1]), ([2], [2]), ([2], [2]), ([4, 2], [2, 4]), ([2], [2]), ([5, 6, 2], [2, 5, 6]), ([7, 2], [2, 7]), ([3, 8, 2], [2, 3, 8]), ([9, 2], [2, 9]), ([2], [2]), ([2], [2]), ([12, 2], [2, 12]), ([2], [2]), ([13, 14, 2], [2, 13, 14]), ([15, 2], [2, 15]), ([11, 16, 2], [2, 11, 16]), ([17, 2], [2, 17]), ([10, 18, 2], [2, 10, 18]), ([2, 19], [2, 19]), ([20, 2], [20]), ([21, 21], [21]), ([21, 22], [21, 22]), ([23, 22, 0, 1, 2, 3, 4, 5, 6, 7, 8, 9, 10, 11, 12, 13, 14, 15, 16, 17, 18, 19, 20, 21, 22, 23], [23])])
def changeforgelaw1_LinesCommonMatchesSpec.B12 : List Nat := [0, 1, 3, 7, 7, 23, 7, 119, 247, 511, 1023, 7, 7, 4103, 7, 28679, 61447, 129031, 260103, 524287, 1048575, 2097151, 4194303, 8388607, 16777215]
theorem changeforgelaw1_LinesCommonMatchesSpec.tab12 : rtab .any (opsOf Try.f13 12) = changeforgelaw1_LinesCommonMatchesSpec.T12 := by kernel_rfl
theorem changeforgelaw1_LinesCommonMatchesSpec.bits12 : waitsOk changeforgelaw1_LinesCommonMatchesSpec.T12.2 changeforgelaw1_LinesCommonMatchesSpec.B12 = true := by kernel_rfl
set_option maxHeartbeats 8000000 in
set_option maxRecDepth 100000 in
theorem changeforgelaw1_LinesCommonMatchesSpec.calls (k : Nat) (A0 : Option Addr) (c0 : Nat) (l0 : List ByteArray) (A1 : Option Addr) (c1 : Nat) (l1 : List ByteArray) (r : Bool) (w : World) (hr0 : Kd.C Kd.string w A0 l0.length l0) (hc0 : l0.length ≤ c0) (hr1 : Kd.C Kd.string w A1 l1.length l1) (hc1 : l1.length ≤ c1) (h : changeforgelaw1_LinesCommonMatchesSpec.f k l0 l1 = some r) (hrt : r = true) :
    Calls Try.prog 13 #[.slice A0 l0.length c0, .slice A1 l1.length c1] w fun e w' => e = .returned (.bool r) ∧ Below w.heap.size w w' := by
  have hu24 := Try.underlying24;have HR0 := Aside0.mk hr0;have HC0 := Aside0.mk hc0;clear hr0 hc0;have HR1 := Aside0.mk hr1;have HC1 := Aside0.mk hc1;clear hr1 hc1;have HB := Aside0.mk (Below.refl w.heap.size w);have H : ((lines_Common.f l0 l1).bind fun bt159 => ((changeforgeref1_TwoFault.f l0 l1).bind fun bt164 => (if bt164.1 = 0 then (if bt159.2.2.1 = 0 then (if bt159.1 < 0 then (changeforgelaw1_LinesCommonMatchesSpec.j0 k l0 l1 bt159.1 bt159.2.1 true) else (if bt159.2.1 < 0 then (changeforgelaw1_LinesCommonMatchesSpec.j0 k l0 l1 bt159.1 bt159.2.1 true) else (if (wrap64 (bt159.1 + bt159.2.1)) > (l0.length : Int) then (changeforgelaw1_LinesCommonMatchesSpec.j0 k l0 l1 bt159.1 bt159.2.1 true) else (changeforgelaw1_LinesCommonMatchesSpec.j0 k l0 l1 bt159.1 bt159.2.1 (decide ((wrap64 (bt159.1 + bt159.2.1)) > (l1.length : Int))))))) else (changeforgelaw1_LinesCommonMatchesSpec.j0 k l0 l1 bt159.1 bt159.2.1 true)) else (if (bt159.2.2.1 == bt164.1 && (bt159.2.2.2 == bt164.2)) = true then (if bt159.1 = 0 then (if bt159.2.1 = 0 then ((changeforgelaw1_pair.f).bind fun t167 => (some t167)) else (some false)) else (some false)) else (some false))))) = some r := h;clear h;replace H := Option.bind_eq_some_iff.mp H;obtain ⟨⟨t159, t160, t161, t162⟩, A30, H⟩ := H;replace H : ((changeforgeref1_TwoFault.f l0 l1).bind fun bt164 => (if bt164.1 = 0 then (if t161 = 0 then (if t159 < 0 then (changeforgelaw1_LinesCommonMatchesSpec.j0 k l0 l1 t159 t160 true) else (if t160 < 0 then (changeforgelaw1_LinesCommonMatchesSpec.j0 k l0 l1 t159 t160 true) else (if (wrap64 (t159 + t160)) > (l0.length : Int) then (changeforgelaw1_LinesCommonMatchesSpec.j0 k l0 l1 t159 t160 true) else (changeforgelaw1_LinesCommonMatchesSpec.j0 k l0 l1 t159 t160 (decide ((wrap64 (t159 + t160)) > (l1.length : Int))))))) else (changeforgelaw1_LinesCommonMatchesSpec.j0 k l0 l1 t159 t160 true)) else (if (t161 == bt164.1 && (t162 == bt164.2)) = true then (if t159 = 0 then (if t160 = 0 then ((changeforgelaw1_pair.f).bind fun t167 => (some t167)) else (some false)) else (some false)) else (some false)))) = some r := H;have A3 := Aside0.mk A30;clear A30;replace H := Option.bind_eq_some_iff.mp H;obtain ⟨⟨t164, t165⟩, A40, H⟩ := H;replace H : (if t164 = 0 then (if t161 = 0 then (if t159 < 0 then (changeforgelaw1_LinesCommonMatchesSpec.j0 k l0 l1 t159 t160 true) else (if t160 < 0 then (changeforgelaw1_LinesCommonMatchesSpec.j0 k l0 l1 t159 t160 true) else (if (wrap64 (t159 + t160)) > (l0.length : Int) then (changeforgelaw1_LinesCommonMatchesSpec.j0 k l0 l1 t159 t160 true) else (changeforgelaw1_LinesCommonMatchesSpec.j0 k l0 l1 t159 t160 (decide ((wrap64 (t159 + t160)) > (l1.length : Int))))))) else (changeforgelaw1_LinesCommonMatchesSpec.j0 k l0 l1 t159 t160 true)) else (if (t161 == t164 && (t162 == t165)) = true then (if t159 = 0 then (if t160 = 0 then ((changeforgelaw1_pair.f).bind fun t167 => (some t167)) else (some false)) else (some false)) else (some false))) = some r := H;have A4 := Aside0.mk A40;clear A40
  by_cases c5 : t164 = 0
  · rw [if_pos c5] at H;have c5b0 : (t164 == 0) = true := beq_iff_eq.mpr c5;have c5b1 : (t164 != 0) = false := bne_eq_false_iff_eq.mpr c5;clear c5;have HC6 := Aside0.mk H;clear H
    go_enter Try.func13, Try.ntmps13
    go_upto_region 5 with (first|((with_reducible refine gate_callee (f := 33) rfl ?_);refine goesL_ (some 13) rfl rfl Try.func33 (by kernel_rfl) rfl #[.slice A0 l0.length c0, .slice A1 l1.length c1] rfl mA ?_;(with_reducible refine (lines_Common.calls _ _ l0 _ _ l1 t159 t160 t161 t162 _ ?side1 ?side2 ?side3 ?side4 A3.out).mono ?_);(case side1 => repeat (first|exact HR0.out|(with_reducible refine Kd.C_alloc ?_ _)|(with_reducible refine Kd.C_drewN ?_ _)|(with_reducible refine Kd.C_drew ?_)));(case side2 => exact HC0.out);(case side3 => repeat (first|exact HR1.out|(with_reducible refine Kd.C_alloc ?_ _)|(with_reducible refine Kd.C_drewN ?_ _)|(with_reducible refine Kd.C_drew ?_)));(case side4 => exact HC1.out);rintro e w7 ⟨rfl, hb⟩;refine ⟨_, rfl, ?_⟩;replace HB := sBe HB hb;(try clear hb))|((with_reducible refine gate_dst (N := 7) rfl ?_);(try (refine gate_guard (by rfl) ?_;dsimp only));refine bE 7 #[.int .i64 0, .int .i64 0] 24 ?_;intro gb163 hg w8 hbox hb;have BK163 := Aside0.mk (hbox);have GW163 := gBe HB hg;have GE163 := gBe HB hg;replace HB := sBe HB hb;clear hb hbox hg;have hcz9_0 := hC BK163 0 (.int .i64 0);have hcz9_1 := hC BK163 1 (.int .i64 0);have hfz9_0 := blk_frozen BK163.out 0;have hfz9_1 := blk_frozen BK163.out 1)|((with_reducible refine gate_callee (f := 34) rfl ?_);refine goesL_ (some 19) rfl rfl Try.func34 (by kernel_rfl) rfl #[.slice A0 l0.length c0, .slice A1 l1.length c1] rfl mA ?_;(with_reducible refine (changeforgeref1_TwoFault.calls _ _ l0 _ _ l1 t164 t165 _ ?side1 ?side2 ?side3 ?side4 A4.out).mono ?_);(case side1 => exact Kd.C_below HR0.out eB);(case side2 => exact HC0.out);(case side3 => exact Kd.C_below HR1.out eB);(case side4 => exact HC1.out);rintro e w10 ⟨rfl, hb⟩;refine ⟨_, rfl, ?_⟩;replace BK163 := lK gb163 24 #[.int .i64 t161, .int .i64 t162] hb;replace HB := sBe HB hb;(try clear hb))|((with_reducible refine gate_dst (N := 8) rfl ?_);(try (refine gate_guard (by rfl) ?_;dsimp only));refine bE 8 #[.int .i64 0, .int .i64 0] 24 ?_;intro gb166 hg w11 hbox hb;have BK166 := Aside0.mk (hbox);have GW166 := gBe HB hg;have GE166 := gBe HB hg;have NB163_166 := nL BK163 hg;have NB166_163 := nG BK163 hg;replace BK163 := lJ BK163 hb;replace HB := sBe HB hb;clear hb hbox hg;have hnb12 := NB166_163.out;have hnc12 := NB163_166.out;have hcz13_0 := hC BK166 0 (.int .i64 0);have hcz13_1 := hC BK166 1 (.int .i64 0);have hfz13_0 := blk_frozen BK166.out 0;have hfz13_1 := blk_frozen BK166.out 1))
    (try simp only [Act.put, sA, sB, sC])
    go_cut [63] (fun v63 wc => ∃ (kq : Nat) (x63_5 : Bool), v63 = .bool x63_5 ∧ Aside0 (changeforgelaw1_LinesCommonMatchesSpec.j0 kq l0 l1 t159 t160 x63_5 = some r) ∧ Aside0 (kq ≤ k) ∧ Aside0 (wc.heap[gb163]? = some (.cells #[.int .i64 t161, .int .i64 t162] 24 (0, 0))) ∧ Aside0 (wc.heap[gb166]? = some (.cells #[.int .i64 t164, .int .i64 t165] 24 (0, 0))) ∧ Aside0 (Below w.heap.size w wc))
    case first =>
      have H := HC6.out;clear HC6
      by_cases c14 : t161 = 0
      · rw [if_pos c14] at H;have c14b0 : (t161 == 0) = true := beq_iff_eq.mpr c14;have c14b1 : (t161 != 0) = false := bne_eq_false_iff_eq.mpr c14;clear c14
        (first|rw [c14b0]|(simp only [i64_w, i32_w];rw [c14b0])|skip)
        by_cases c15 : t159 < 0
        · rw [if_pos c15] at H;have c15b0 : decide (t159 < 0) = true := decide_eq_true c15;clear c15;have H' := Aside0.mk H;clear H;have hnb16 := NB163_166.out;have hnc16 := NB166_163.out;have hcz17_0 := hC BK163 0 (.int .i64 t161);have hcz17_1 := hC BK163 1 (.int .i64 t162);have hfz17_0 := blk_frozen BK163.out 0;have hfz17_1 := blk_frozen BK163.out 1
          go_wp2
          go_meet
          case rel => exact ⟨_, (true), (by first|rfl|(simp only [i64_w, i32_w];done)|(simp only [i64_w, i32_w];rfl)|(simp;done)|(simp [*];done)), H', ⟨by first|omega|exact Nat.le_refl _⟩, ⟨kK⟩, ⟨kK⟩, ⟨eB⟩⟩
        · rw [if_neg c15] at H;have c15b0 : decide (t159 < 0) = false := decide_eq_false c15;clear c15
          by_cases c18 : t160 < 0
          · rw [if_pos c18] at H;have c18b0 : decide (t160 < 0) = true := decide_eq_true c18;clear c18;have H' := Aside0.mk H;clear H;have hnb19 := NB163_166.out;have hnc19 := NB166_163.out;have hcz20_0 := hC BK163 0 (.int .i64 t161);have hcz20_1 := hC BK163 1 (.int .i64 t162);have hfz20_0 := blk_frozen BK163.out 0;have hfz20_1 := blk_frozen BK163.out 1
            go_wp2
            go_meet
            case rel => exact ⟨_, (true), (by first|rfl|(simp only [i64_w, i32_w];done)|(simp only [i64_w, i32_w];rfl)|(simp;done)|(simp [*];done)), H', ⟨by first|omega|exact Nat.le_refl _⟩, ⟨kK⟩, ⟨kK⟩, ⟨eB⟩⟩
          · rw [if_neg c18] at H;have c18b0 : decide (t160 < 0) = false := decide_eq_false c18;clear c18
            by_cases c21 : (wrap64 (t159 + t160)) > (l0.length : Int)
            · rw [if_pos c21] at H;have c21b0 : decide ((l0.length : Int) < (wrap64 (t159 + t160))) = true := decide_eq_true c21;clear c21;have H' := Aside0.mk H;clear H;have hnb22 := NB163_166.out;have hnc22 := NB166_163.out;have hcz23_0 := hC BK163 0 (.int .i64 t161);have hcz23_1 := hC BK163 1 (.int .i64 t162);have hfz23_0 := blk_frozen BK163.out 0;have hfz23_1 := blk_frozen BK163.out 1
              go_wp2
              go_meet
              case rel => exact ⟨_, (true), (by first|rfl|(simp only [i64_w, i32_w];done)|(simp only [i64_w, i32_w];rfl)|(simp;done)|(simp [*];done)), H', ⟨by first|omega|exact Nat.le_refl _⟩, ⟨kK⟩, ⟨kK⟩, ⟨eB⟩⟩
            · rw [if_neg c21] at H;have c21b0 : decide ((l0.length : Int) < (wrap64 (t159 + t160))) = false := decide_eq_false c21;clear c21;have H' := Aside0.mk H;clear H;have hnb24 := NB163_166.out;have hnc24 := NB166_163.out;have hcz25_0 := hC BK163 0 (.int .i64 t161);have hcz25_1 := hC BK163 1 (.int .i64 t162);have hfz25_0 := blk_frozen BK163.out 0;have hfz25_1 := blk_frozen BK163.out 1
              go_wp2
              go_meet
              case rel => exact ⟨_, (decide ((wrap64 (t159 + t160)) > (l1.length : Int))), (by first|rfl|(simp only [i64_w, i32_w];done)|(simp only [i64_w, i32_w];rfl)|(simp;done)|(simp [*];done)), H', ⟨by first|omega|exact Nat.le_refl _⟩, ⟨kK⟩, ⟨kK⟩, ⟨eB⟩⟩
      · rw [if_neg c14] at H;have c14b0 : (t161 == 0) = false := beq_eq_false_iff_ne.mpr c14;have c14b1 : (t161 != 0) = true := bne_iff_ne.mpr c14
        (first|rw [c14b0]|(simp only [i64_w, i32_w];rw [c14b0])|skip)
        have H' := Aside0.mk H;clear H;have hnb26 := NB163_166.out;have hnc26 := NB166_163.out;have hcz27_0 := hC BK163 0 (.int .i64 t161);have hcz27_1 := hC BK163 1 (.int .i64 t162);have hfz27_0 := blk_frozen BK163.out 0;have hfz27_1 := blk_frozen BK163.out 1
        go_wp2
        go_meet
        case rel => exact ⟨_, (true), (by first|rfl|(simp only [i64_w, i32_w];done)|(simp only [i64_w, i32_w];rfl)|(simp;done)|(simp [*];done)), H', ⟨by first|omega|exact Nat.le_refl _⟩, ⟨kK⟩, ⟨kK⟩, ⟨eB⟩⟩
    case rest =>
      clear HC6
      try clear c1
      try clear c2
      try clear p2
      try clear c3
      try clear c5
      try clear c5b0
      try clear c5b1
      try clear p6
      try clear c12
      try clear c13
      try clear c14
      try clear c14b0
      try clear c14b1
      try clear c15
      try clear c15b0
      try clear c16
      try clear c18
      try clear c18b0
      try clear c19
      try clear c21
      try clear c21b0
      try clear c22
      try clear c24
      try clear c26
      try clear hcz13_0
      try clear hcz13_1
      try clear hcz17_0
      try clear hcz17_1
      try clear hcz20_0
      try clear hcz20_1
      try clear hcz23_0
      try clear hcz23_1
      try clear hcz25_0
      try clear hcz25_1
      try clear hcz27_0
      try clear hcz27_1
      try clear hcz9_0
      try clear hcz9_1
      try clear hfz13_0
      try clear hfz13_1
      try clear hfz17_0
      try clear hfz17_1
      try clear hfz20_0
      try clear hfz20_1
      try clear hfz23_0
      try clear hfz23_1
      try clear hfz25_0
      try clear hfz25_1
      try clear hfz27_0
      try clear hfz27_1
      try clear hfz9_0
      try clear hfz9_1
      obtain ⟨kq, x63_5, rfl, HA, HJ5, BK163, BK166, HB⟩ := hcut
      cases kq with
      | zero => exact absurd HA.out (by simp [changeforgelaw1_LinesCommonMatchesSpec.j0])
      | succ kj5 =>
        have H := HA.out;clear HA;simp only [changeforgelaw1_LinesCommonMatchesSpec.j0] at H
        by_cases c28 : x63_5 = true
        · subst c28;have H1 : (some false) = some r := (by rw [if_pos rfl] at H;exact H);clear H;have H := H1;clear H1;obtain rfl := Option.some.inj H;exact absurd hrt (by decide)
        · replace c28 := Bool.eq_false_iff.mpr c28;subst c28;have H1 : (if 0 ≤ t159 then (if t159 ≤ (l0.length : Int) then (if t159 ≤ (l1.length : Int) then ((changeforgeequal_Strings.f (l0.take (t159 : Int).toNat) (l1.take (t159 : Int).toNat)).bind fun t170 => (if t170 = true then (if 0 ≤ (wrap64 ((l0.length : Int) - t160)) then (if (wrap64 ((l0.length : Int) - t160)) ≤ (l0.length : Int) then (if 0 ≤ (wrap64 ((l1.length : Int) - t160)) then (if (wrap64 ((l1.length : Int) - t160)) ≤ (l1.length : Int) then ((changeforgeequal_Strings.f (l0.drop ((wrap64 ((l0.length : Int) - t160)) : Int).toNat) (l1.drop ((wrap64 ((l1.length : Int) - t160)) : Int).toNat)).bind fun t173 => (changeforgelaw1_LinesCommonMatchesSpec.j1 kj5 l0 l1 t159 t160 (!t173))) else (none)) else (none)) else (none)) else (none)) else (changeforgelaw1_LinesCommonMatchesSpec.j1 kj5 l0 l1 t159 t160 true))) else (none)) else (none)) else (none)) = some r := (by rw [if_neg (show ¬ (false = true) by decide)] at H;exact H);clear H;have H := H1;clear H1;have HC29 := Aside0.mk H;clear H
          go_upto_region 7 with (fail)
          go_cut [87] (fun v87 wc => ∃ (kq : Nat) (x87_28 : Bool), v87 = .bool x87_28 ∧ Aside0 (changeforgelaw1_LinesCommonMatchesSpec.j1 kq l0 l1 t159 t160 x87_28 = some r) ∧ Aside0 (kq ≤ kj5) ∧ Aside0 (wc.heap[gb163]? = some (.cells #[.int .i64 t161, .int .i64 t162] 24 (0, 0))) ∧ Aside0 (wc.heap[gb166]? = some (.cells #[.int .i64 t164, .int .i64 t165] 24 (0, 0))) ∧ Aside0 (Below w.heap.size w wc))
          case first =>
            have H := HC29.out;clear HC29
            by_cases c30 : 0 ≤ t159
            · rw [if_pos c30] at H;have c30b0 := eq_true c30;have c30b1 : decide (0 ≤ t159) = true := decide_eq_true c30;clear c30
              by_cases c31 : t159 ≤ (l0.length : Int)
              · rw [if_pos c31] at H;have c31b0 := eq_true c31;have c31b1 : decide (t159 ≤ (l0.length : Int)) = true := decide_eq_true c31;clear c31;have c32b0 := eq_true (dA : 0 ≤ t159)
                by_cases c33 : t159 ≤ (l1.length : Int)
                · rw [if_pos c33] at H;have c33b0 := eq_true c33;have c33b1 : decide (t159 ≤ (l1.length : Int)) = true := decide_eq_true c33;clear c33;replace H := Option.bind_eq_some_iff.mp H;obtain ⟨t170, A340, H⟩ := H;replace H : (if t170 = true then (if 0 ≤ (wrap64 ((l0.length : Int) - t160)) then (if (wrap64 ((l0.length : Int) - t160)) ≤ (l0.length : Int) then (if 0 ≤ (wrap64 ((l1.length : Int) - t160)) then (if (wrap64 ((l1.length : Int) - t160)) ≤ (l1.length : Int) then ((changeforgeequal_Strings.f (l0.drop ((wrap64 ((l0.length : Int) - t160)) : Int).toNat) (l1.drop ((wrap64 ((l1.length : Int) - t160)) : Int).toNat)).bind fun t173 => (changeforgelaw1_LinesCommonMatchesSpec.j1 kj5 l0 l1 t159 t160 (!t173))) else (none)) else (none)) else (none)) else (none)) else (changeforgelaw1_LinesCommonMatchesSpec.j1 kj5 l0 l1 t159 t160 true)) = some r := H;have A34 := Aside0.mk A340;clear A340
                  by_cases c35 : t170 = true
                  · subst c35;have H1 : (if 0 ≤ (wrap64 ((l0.length : Int) - t160)) then (if (wrap64 ((l0.length : Int) - t160)) ≤ (l0.length : Int) then (if 0 ≤ (wrap64 ((l1.length : Int) - t160)) then (if (wrap64 ((l1.length : Int) - t160)) ≤ (l1.length : Int) then ((changeforgeequal_Strings.f (l0.drop ((wrap64 ((l0.length : Int) - t160)) : Int).toNat) (l1.drop ((wrap64 ((l1.length : Int) - t160)) : Int).toNat)).bind fun t173 => (changeforgelaw1_LinesCommonMatchesSpec.j1 kj5 l0 l1 t159 t160 (!t173))) else (none)) else (none)) else (none)) else (none)) = some r := (by rw [if_pos rfl] at H;exact H);clear H;have H := H1;clear H1;obtain ⟨ji36, hji36⟩ : ∃ j_ : Int, (wrap64 ((l0.length : Int) - t160)) = j_ := ⟨_, rfl⟩;replace H : (if 0 ≤ (ji36) then (if (ji36) ≤ (l0.length : Int) then (if 0 ≤ (wrap64 ((l1.length : Int) - t160)) then (if (wrap64 ((l1.length : Int) - t160)) ≤ (l1.length : Int) then ((changeforgeequal_Strings.f (l0.drop ((ji36) : Int).toNat) (l1.drop ((wrap64 ((l1.length : Int) - t160)) : Int).toNat)).bind fun t173 => (changeforgelaw1_LinesCommonMatchesSpec.j1 kj5 l0 l1 t159 t160 (!t173))) else (none)) else (none)) else (none)) else (none)) = some r := (by first|(rw [hji36] at H;exact H)|(simp only [hji36] at H ⊢;exact H));(try rw [hji36] at A34);have hji36w : (IntKind.i64.wrap ((l0.length : Int) - t160)) = ji36 := (i64_w _).trans hji36
                    by_cases c37 : 0 ≤ (ji36)
                    · rw [if_pos c37] at H;have c37b0 := eq_true c37;have c37b1 : decide (0 ≤ (ji36)) = true := decide_eq_true c37;clear c37
                      by_cases c38 : (ji36) ≤ (l0.length : Int)
                      · rw [if_pos c38] at H;have c38b0 := eq_true c38;have c38b1 : decide ((ji36) ≤ (l0.length : Int)) = true := decide_eq_true c38;clear c38;obtain ⟨ji39, hji39⟩ : ∃ j_ : Int, (wrap64 ((l1.length : Int) - t160)) = j_ := ⟨_, rfl⟩;replace H : (if 0 ≤ (ji39) then (if (ji39) ≤ (l1.length : Int) then ((changeforgeequal_Strings.f (l0.drop ((ji36) : Int).toNat) (l1.drop ((ji39) : Int).toNat)).bind fun t173 => (changeforgelaw1_LinesCommonMatchesSpec.j1 kj5 l0 l1 t159 t160 (!t173))) else (none)) else (none)) = some r := (by first|(rw [hji39] at H;exact H)|(simp only [hji39] at H ⊢;exact H));(try rw [hji39] at A34);have hji39w : (IntKind.i64.wrap ((l1.length : Int) - t160)) = ji39 := (i64_w _).trans hji39
                        by_cases c40 : 0 ≤ (ji39)
                        · rw [if_pos c40] at H;have c40b0 := eq_true c40;have c40b1 : decide (0 ≤ (ji39)) = true := decide_eq_true c40;clear c40
                          by_cases c41 : (ji39) ≤ (l1.length : Int)
                          · rw [if_pos c41] at H;have c41b0 := eq_true c41;have c41b1 : decide ((ji39) ≤ (l1.length : Int)) = true := decide_eq_true c41;clear c41;replace H := Option.bind_eq_some_iff.mp H;obtain ⟨t173, A420, H⟩ := H;replace H : (changeforgelaw1_LinesCommonMatchesSpec.j1 kj5 l0 l1 t159 t160 (!t173)) = some r := H;have A42 := Aside0.mk A420;clear A420;have H' := Aside0.mk H;clear H
                            try go_wp2
                            replace BK163 := Aside0.mk (blk_drew BK163.out);replace BK166 := Aside0.mk (blk_drew BK166.out);replace HB := Aside0.mk (below_drew1 HB.out);obtain ⟨i044, hi044, _, hsz44, _⟩ := info_parts info9;obtain ⟨hcut44, hA44, hC44⟩ := print_take_of (P := Try.prog) Value.string (⟨#[]⟩ : ByteArray) 33 9 .i64 Try.underlying33 hi044 hsz44 A0 c0 l0 t159 (dA) (dA) HC0.out;have HR168 := Aside0.mk (Kd.C_of_reads (h1 := fun _ => rfl) (hA44 _ (Kd.reads_of_C HR0.out)));have HC168 := Aside0.mk hC44;clear hA44 hC44 hi044 hsz44;obtain ⟨i045, hi045, _, hsz45, _⟩ := info_parts info9;obtain ⟨hcut45, hA45, hC45⟩ := print_take_of (P := Try.prog) Value.string (⟨#[]⟩ : ByteArray) 33 9 .i64 Try.underlying33 hi045 hsz45 A1 c1 l1 t159 (dA) (dA) HC1.out;have HR169 := Aside0.mk (Kd.C_of_reads (h1 := fun _ => rfl) (hA45 _ (Kd.reads_of_C HR1.out)));have HC169 := Aside0.mk hC45;clear hA45 hC45 hi045 hsz45;refine start_ (n := 24) (S := fun w' => True) (ds := []) (mb 24 0) (by kernel_rfl) rfl (by kernel_rfl) trivial (fun hHeld => ?_);refine with_tabW changeforgelaw1_LinesCommonMatchesSpec.tab7 changeforgelaw1_LinesCommonMatchesSpec.bits7 (fun HT_ HW_ => ?_);generalize wc.drew = w43 at BK163 BK166 HB HR168 HR169 hHeld ⊢;refine pA 0 64 (mb 24 1) HT_ rfl rfl ?_;refine pA 1 65 (mb 24 3) HT_ rfl rfl ?_;refine pA 2 66 (mb 24 7) HT_ rfl rfl ?_;refine pA 3 67 (mb 24 15) HT_ rfl rfl ?_;refine pA 4 68 (mb 24 31) HT_ rfl rfl ?_;refine pA 5 69 (mb 24 63) HT_ rfl rfl ?_;refine one_ (i := 6) (N := some 70) (mb 24 127) rfl rfl (one_of HT_.out (by kernel_rfl)) (by decide) (fun K hK => ?_);refine goes_ Try.func31 (by kernel_rfl) rfl #[.slice A0 (l0.take (t159 : Int).toNat).length c0, .slice A1 (l1.take (t159 : Int).toNat).length c1] (by rfl) rfl rfl (by (try simp only [List.map_toArray, List.map_cons, List.map_nil]);first|done|(rw [show (l0.take (t159 : Int).toNat).length = t159.toNat from (by rw [List.length_take];have h_ : (t159 : Int) ≤ (l0.length : Int) := dA;omega)] <;> rfl)|(rw [show (l1.take (t159 : Int).toNat).length = t159.toNat from (by rw [List.length_take];have h_ : (t159 : Int) ≤ (l1.length : Int) := dA;omega)] <;> rfl)|(rw [show (l0.take (t159 : Int).toNat).length = t159.toNat from (by rw [List.length_take];have h_ : (t159 : Int) ≤ (l0.length : Int) := dA;omega), show (l1.take (t159 : Int).toNat).length = t159.toNat from (by rw [List.length_take];have h_ : (t159 : Int) ≤ (l1.length : Int) := dA;omega)] <;> rfl)|rfl|(simp only [List.length_drop, List.length_take];rfl)) ?_
                            with_reducible refine (changeforgeequal_Strings.calls _ _ (l0.take (t159 : Int).toNat) _ _ (l1.take (t159 : Int).toNat) true _ ?side1 ?side2 ?side3 ?side4 A34.out).mono ?_
                            (case side1 => exact cBe HR168);(case side2 => exact HC168.out);(case side3 => exact cBe HR169);(case side4 => exact HC169.out)
                            rintro e w' ⟨rfl, ⟨nd, rfl⟩⟩
                            refine ⟨_, rfl, ?_⟩;obtain ⟨i046, hi046, _, hsz46, _⟩ := info_parts info9;obtain ⟨A46, hcut46, hA46, hC46⟩ := print_drop_of (P := Try.prog) Value.string (⟨#[]⟩ : ByteArray) 33 9 .i64 Try.underlying33 hi046 hsz46 A0 c0 l0 (ji36) (dA) (dA) HC0.out;have HR171 := Aside0.mk (Kd.C_of_reads (h1 := fun _ => rfl) (hA46 _ (Kd.reads_of_C HR0.out)));have HC171 := Aside0.mk hC46;clear hA46 hC46 hi046 hsz46;obtain ⟨i047, hi047, _, hsz47, _⟩ := info_parts info9;obtain ⟨A47, hcut47, hA47, hC47⟩ := print_drop_of (P := Try.prog) Value.string (⟨#[]⟩ : ByteArray) 33 9 .i64 Try.underlying33 hi047 hsz47 A1 c1 l1 (ji39) (dA) (dA) HC1.out;have HR172 := Aside0.mk (Kd.C_of_reads (h1 := fun _ => rfl) (hA47 _ (Kd.reads_of_C HR1.out)));have HC172 := Aside0.mk hC47;clear hA47 hC47 hi047 hsz47;refine hK.out _ _ trivial (fun hHeld => ?_);clear hK K;refine nmA ?_;refine pA 7 71 (mb 24 255) HT_ rfl rfl ?_;refine pA 8 72 (mb 24 511) HT_ rfl rfl ?_;refine pA 9 73 (mb 24 1023) HT_ rfl rfl ?_;refine pA 10 74 (mb 24 2047) HT_ rfl rfl ?_;refine pA 11 75 (mb 24 4095) HT_ rfl rfl ?_;refine pA 12 76 (mb 24 8191) HT_ rfl rfl ?_;refine pA 13 77 (mb 24 16383) HT_ rfl rfl ?_;refine pA 14 78 (mb 24 32767) HT_ rfl rfl ?_;refine pA 15 79 (mb 24 65535) HT_ rfl rfl ?_;refine pA 16 80 (mb 24 131071) HT_ rfl rfl ?_;refine pA 17 81 (mb 24 262143) HT_ rfl rfl ?_;refine pA 18 82 (mb 24 524287) HT_ rfl rfl ?_;refine pA 19 83 (mb 24 1048575) HT_ rfl rfl ?_;refine pA 20 84 (mb 24 2097151) HT_ rfl rfl ?_;refine one_ (i := 21) (N := some 85) (mb 24 4194303) rfl rfl (one_of HT_.out (by kernel_rfl)) (by decide) (fun K hK => ?_);refine goes_ Try.func31 (by kernel_rfl) rfl #[.slice A46 (l0.drop ((ji36) : Int).toNat).length (c0 - (ji36).toNat), .slice A47 (l1.drop ((ji39) : Int).toNat).length (c1 - (ji39).toNat)] (by rfl) rfl rfl (by (try simp only [List.map_toArray, List.map_cons, List.map_nil]);first|done|(rw [show (l0.drop ((ji36) : Int).toNat).length = (l0.length - (ji36).toNat) from List.length_drop] <;> rfl)|(rw [show (l1.drop ((ji39) : Int).toNat).length = (l1.length - (ji39).toNat) from List.length_drop] <;> rfl)|(simp only [hji36, hji39];rfl)|rfl|(simp only [List.length_drop, List.length_take];rfl)) ?_
                            with_reducible refine (changeforgeequal_Strings.calls _ _ (l0.drop ((ji36) : Int).toNat) _ _ (l1.drop ((ji39) : Int).toNat) t173 _ ?side1 ?side2 ?side3 ?side4 A42.out).mono ?_
                            (case side1 => repeat (first|exact (Kd.C_below HR171.out eB)|(with_reducible refine Kd.C_alloc ?_ _)|(with_reducible refine Kd.C_drewN ?_ _)|(with_reducible refine Kd.C_drew ?_)));(case side2 => exact HC171.out);(case side3 => repeat (first|exact (Kd.C_below HR172.out eB)|(with_reducible refine Kd.C_alloc ?_ _)|(with_reducible refine Kd.C_drewN ?_ _)|(with_reducible refine Kd.C_drew ?_)));(case side4 => exact HC172.out)
                            rintro e w' ⟨rfl, ⟨nd, rfl⟩⟩
                            refine ⟨_, rfl, ?_⟩;refine hK.out _ _ trivial (fun hHeld => ?_);clear hK K;refine nmA ?_;refine pA 22 86 (mb 24 8388607) HT_ rfl rfl ?_;refine pA 23 87 (mb 24 16777215) HT_ rfl rfl ?_;refine done_ (done_of HT_.out (by kernel_rfl)) ?_
                            try go_wp2
                            go_meet
                            case rel => exact ⟨_, (!t173), (by first|rfl|(simp only [i64_w, i32_w];done)|(simp only [i64_w, i32_w];rfl)|(simp;done)|(simp [*];done)), H', ⟨by have := HJ5.out;first|omega|exact Nat.le_refl _⟩, ⟨kK⟩, ⟨kK⟩, ⟨eB⟩⟩
                          · rw [if_neg c41] at H;exact absurd H (by simp)
                        · rw [if_neg c40] at H;exact absurd H (by simp)
                      · rw [if_neg c38] at H;exact absurd H (by simp)
                    · rw [if_neg c37] at H;exact absurd H (by simp)
                  · replace c35 := Bool.eq_false_iff.mpr c35;subst c35;have H1 : (changeforgelaw1_LinesCommonMatchesSpec.j1 kj5 l0 l1 t159 t160 true) = some r := (by rw [if_neg (show ¬ (false = true) by decide)] at H;exact H);clear H;have H := H1;clear H1;have H' := Aside0.mk H;clear H
                    try go_wp2
                    replace BK163 := Aside0.mk (blk_drew BK163.out);replace BK166 := Aside0.mk (blk_drew BK166.out);replace HB := Aside0.mk (below_drew1 HB.out);obtain ⟨i049, hi049, _, hsz49, _⟩ := info_parts info9;obtain ⟨hcut49, hA49, hC49⟩ := print_take_of (P := Try.prog) Value.string (⟨#[]⟩ : ByteArray) 33 9 .i64 Try.underlying33 hi049 hsz49 A0 c0 l0 t159 (dA) (dA) HC0.out;have HR168 := Aside0.mk (Kd.C_of_reads (h1 := fun _ => rfl) (hA49 _ (Kd.reads_of_C HR0.out)));have HC168 := Aside0.mk hC49;clear hA49 hC49 hi049 hsz49;obtain ⟨i050, hi050, _, hsz50, _⟩ := info_parts info9;obtain ⟨hcut50, hA50, hC50⟩ := print_take_of (P := Try.prog) Value.string (⟨#[]⟩ : ByteArray) 33 9 .i64 Try.underlying33 hi050 hsz50 A1 c1 l1 t159 (dA) (dA) HC1.out;have HR169 := Aside0.mk (Kd.C_of_reads (h1 := fun _ => rfl) (hA50 _ (Kd.reads_of_C HR1.out)));have HC169 := Aside0.mk hC50;clear hA50 hC50 hi050 hsz50;refine start_ (n := 24) (S := fun w' => True) (ds := []) (mb 24 0) (by kernel_rfl) rfl (by kernel_rfl) trivial (fun hHeld => ?_);refine with_tabW changeforgelaw1_LinesCommonMatchesSpec.tab7 changeforgelaw1_LinesCommonMatchesSpec.bits7 (fun HT_ HW_ => ?_);generalize wc.drew = w48 at BK163 BK166 HB HR168 HR169 hHeld ⊢;refine pA 0 64 (mb 24 1) HT_ rfl rfl ?_;refine pA 1 65 (mb 24 3) HT_ rfl rfl ?_;refine pA 2 66 (mb 24 7) HT_ rfl rfl ?_;refine pA 3 67 (mb 24 15) HT_ rfl rfl ?_;refine pA 4 68 (mb 24 31) HT_ rfl rfl ?_;refine pA 5 69 (mb 24 63) HT_ rfl rfl ?_;refine one_ (i := 6) (N := some 70) (mb 24 127) rfl rfl (one_of HT_.out (by kernel_rfl)) (by decide) (fun K hK => ?_);refine goes_ Try.func31 (by kernel_rfl) rfl #[.slice A0 (l0.take (t159 : Int).toNat).length c0, .slice A1 (l1.take (t159 : Int).toNat).length c1] (by rfl) rfl rfl (by (try simp only [List.map_toArray, List.map_cons, List.map_nil]);first|done|(rw [show (l0.take (t159 : Int).toNat).length = t159.toNat from (by rw [List.length_take];have h_ : (t159 : Int) ≤ (l0.length : Int) := dA;omega)] <;> rfl)|(rw [show (l1.take (t159 : Int).toNat).length = t159.toNat from (by rw [List.length_take];have h_ : (t159 : Int) ≤ (l1.length : Int) := dA;omega)] <;> rfl)|(rw [show (l0.take (t159 : Int).toNat).length = t159.toNat from (by rw [List.length_take];have h_ : (t159 : Int) ≤ (l0.length : Int) := dA;omega), show (l1.take (t159 : Int).toNat).length = t159.toNat from (by rw [List.length_take];have h_ : (t159 : Int) ≤ (l1.length : Int) := dA;omega)] <;> rfl)|rfl|(simp only [List.length_drop, List.length_take];rfl)) ?_
                    with_reducible refine (changeforgeequal_Strings.calls _ _ (l0.take (t159 : Int).toNat) _ _ (l1.take (t159 : Int).toNat) false _ ?side1 ?side2 ?side3 ?side4 A34.out).mono ?_
                    (case side1 => exact cBe HR168);(case side2 => exact HC168.out);(case side3 => exact cBe HR169);(case side4 => exact HC169.out)
                    rintro e w' ⟨rfl, ⟨nd, rfl⟩⟩
                    refine ⟨_, rfl, ?_⟩;refine hK.out _ _ trivial (fun hHeld => ?_);clear hK K;refine nmA ?_;refine pA 7 71 (mb 24 255) HT_ rfl rfl ?_;refine pA 8 72 (mb 24 511) HT_ rfl rfl ?_;refine pU 9 73 (mb 24 1023) HT_ rfl rfl ?_;refine pU 10 74 (mb 24 2047) HT_ rfl rfl ?_;refine pU 11 75 (mb 24 4095) HT_ rfl rfl ?_;refine pU 12 76 (mb 24 8191) HT_ rfl rfl ?_;refine pU 13 77 (mb 24 16383) HT_ rfl rfl ?_;refine pU 14 78 (mb 24 32767) HT_ rfl rfl ?_;refine pU 15 79 (mb 24 65535) HT_ rfl rfl ?_;refine pU 16 80 (mb 24 131071) HT_ rfl rfl ?_;refine pU 17 81 (mb 24 262143) HT_ rfl rfl ?_;refine pU 18 82 (mb 24 524287) HT_ rfl rfl ?_;refine pU 19 83 (mb 24 1048575) HT_ rfl rfl ?_;refine pU 20 84 (mb 24 2097151) HT_ rfl rfl ?_;refine pU 21 85 (mb 24 4194303) HT_ rfl rfl ?_;refine pU 22 86 (mb 24 8388607) HT_ rfl rfl ?_;refine pA 23 87 (mb 24 16777215) HT_ rfl rfl ?_;refine done_ (done_of HT_.out (by kernel_rfl)) ?_
                    try go_wp2
                    go_meet
                    case rel => exact ⟨_, (true), (by first|rfl|(simp only [i64_w, i32_w];done)|(simp only [i64_w, i32_w];rfl)|(simp;done)|(simp [*];done)), H', ⟨by have := HJ5.out;first|omega|exact Nat.le_refl _⟩, ⟨kK⟩, ⟨kK⟩, ⟨eB⟩⟩
                · rw [if_neg c33] at H;exact absurd H (by simp)
              · rw [if_neg c31] at H;exact absurd H (by simp)
            · rw [if_neg c30] at H;exact absurd H (by simp)
          case rest =>
            clear HC29
            try clear c1
            try clear c2
            try clear p2
            try clear c3
            try clear c4
            try clear c5
            try clear c5b0
            try clear c5b1
            try clear p6
            try clear c12
            try clear c13
            try clear c14
            try clear c14b0
            try clear c14b1
            try clear c15
            try clear c15b0
            try clear c16
            try clear c18
            try clear c18b0
            try clear c19
            try clear c21
            try clear c21b0
            try clear c22
            try clear c24
            try clear c26
            try clear c28
            try clear c30
            try clear c30b0
            try clear c30b1
            try clear c31
            try clear c31b0
            try clear c31b1
            try clear c32
            try clear c32b0
            try clear c33
            try clear c33b0
            try clear c33b1
            try clear c35
            try clear c37
            try clear c37b0
            try clear c37b1
            try clear c38
            try clear c38b0
            try clear c38b1
            try clear c40
            try clear c40b0
            try clear c40b1
            try clear c41
            try clear c41b0
            try clear c41b1
            try clear hcz13_0
            try clear hcz13_1
            try clear hcz17_0
            try clear hcz17_1
            try clear hcz20_0
            try clear hcz20_1
            try clear hcz23_0
            try clear hcz23_1
            try clear hcz25_0
            try clear hcz25_1
            try clear hcz27_0
            try clear hcz27_1
            try clear hcz9_0
            try clear hcz9_1
            try clear hfz13_0
            try clear hfz13_1
            try clear hfz17_0
            try clear hfz17_1
            try clear hfz20_0
            try clear hfz20_1
            try clear hfz23_0
            try clear hfz23_1
            try clear hfz25_0
            try clear hfz25_1
            try clear hfz27_0
            try clear hfz27_1
            try clear hfz9_0
            try clear hfz9_1
            try clear p2
            try clear p6
            obtain ⟨kq, x87_28, rfl, HA, HJ28, BK163, BK166, HB⟩ := hcut
            cases kq with
            | zero => exact absurd HA.out (by simp [changeforgelaw1_LinesCommonMatchesSpec.j1])
            | succ kj28 =>
              have H := HA.out;clear HA;simp only [changeforgelaw1_LinesCommonMatchesSpec.j1] at H
              by_cases c51 : x87_28 = true
              · subst c51;have H1 : (some false) = some r := (by rw [if_pos rfl] at H;exact H);clear H;have H := H1;clear H1;obtain rfl := Option.some.inj H;exact absurd hrt (by decide)
              · replace c51 := Bool.eq_false_iff.mpr c51;subst c51;have H1 : (if t159 < (l0.length : Int) then (if t159 < (l1.length : Int) then (if 0 ≤ t159 then (changeforgelaw1_LinesCommonMatchesSpec.j2 kj28 l0 l1 t159 t160 ((rdOf ByteArray.empty l0 t159).toList == (rdOf ByteArray.empty l1 t159).toList)) else (none)) else (changeforgelaw1_LinesCommonMatchesSpec.j2 kj28 l0 l1 t159 t160 false)) else (changeforgelaw1_LinesCommonMatchesSpec.j2 kj28 l0 l1 t159 t160 false)) = some r := (by rw [if_neg (show ¬ (false = true) by decide)] at H;exact H);clear H;have H := H1;clear H1;have HC52 := Aside0.mk H;clear H
                go_upto_region 9 with (fail)
                go_cut [108] (fun v108 wc => ∃ (kq : Nat) (x108_51 : Bool), v108 = .bool x108_51 ∧ Aside0 (changeforgelaw1_LinesCommonMatchesSpec.j2 kq l0 l1 t159 t160 x108_51 = some r) ∧ Aside0 (kq ≤ kj28) ∧ Aside0 (wc.heap[gb163]? = some (.cells #[.int .i64 t161, .int .i64 t162] 24 (0, 0))) ∧ Aside0 (wc.heap[gb166]? = some (.cells #[.int .i64 t164, .int .i64 t165] 24 (0, 0))) ∧ Aside0 (Below w.heap.size w wc))
                case first =>
                  have H := HC52.out;clear HC52
                  by_cases c53 : t159 < (l0.length : Int)
                  · rw [if_pos c53] at H;have c53b0 : decide (t159 < (l0.length : Int)) = true := decide_eq_true c53;clear c53
                    (first|rw [c53b0]|(simp only [i64_w, i32_w];rw [c53b0])|skip)
                    by_cases c54 : t159 < (l1.length : Int)
                    · rw [if_pos c54] at H;have c54b0 : decide (t159 < (l1.length : Int)) = true := decide_eq_true c54;clear c54
                      by_cases c55 : 0 ≤ t159
                      · rw [if_pos c55] at H;have c55b0 : decide (0 ≤ t159) = true := decide_eq_true c55;clear c55;have H' := Aside0.mk H;clear H
                        try go_wp2
                        replace BK163 := Aside0.mk (blk_drew BK163.out);replace BK166 := Aside0.mk (blk_drew BK166.out);replace HB := Aside0.mk (below_drew1 HB.out);have p174 : 0 ≤ (t159 : Int) := dA;have q174 : t159 < (l0.length : Int) := dA;obtain ⟨ad174, e174, hx174_0⟩ := Kd.at_string HR0.out t159 p174 q174;have hw174_0 := hx174_0
                        cases e174
                        replace hx174_0 := (hX HB hx174_0:);replace p174 := eq_true p174;replace q174 := eq_true q174;have p175 : 0 ≤ (t159 : Int) := dA;have q175 : t159 < (l1.length : Int) := dA;obtain ⟨ad175, e175, hx175_0⟩ := Kd.at_string HR1.out t159 p175 q175;have hw175_0 := hx175_0
                        cases e175
                        replace hx175_0 := (hX HB hx175_0:);replace p175 := eq_true p175;replace q175 := eq_true q175;refine start_ (n := 21) (S := fun w' => w'.cell? (ad174.add (t159).toNat) = some (.string (rdOf ByteArray.empty l0 t159)) ∧ w'.cell? (ad175.add (t159).toNat) = some (.string (rdOf ByteArray.empty l1 t159))) (ds := []) (mb 21 0) (by kernel_rfl) rfl (by kernel_rfl) ⟨(hX HB hw174_0:), (hX HB hw175_0:)⟩ (fun hHeld => ?_);refine with_tabW changeforgelaw1_LinesCommonMatchesSpec.tab9 changeforgelaw1_LinesCommonMatchesSpec.bits9 (fun HT_ HW_ => ?_);generalize wc.drew = w56 at BK163 BK166 HB hx174_0 hx175_0 hHeld ⊢;refine pA 0 88 (mb 21 1) HT_ rfl rfl ?_;refine pA 1 89 (mb 21 3) HT_ rfl rfl ?_;refine pA 2 90 (mb 21 7) HT_ rfl rfl ?_;refine pA 3 91 (mb 21 15) HT_ rfl rfl ?_;refine pA 4 92 (mb 21 31) HT_ rfl rfl ?_;refine pA 5 93 (mb 21 63) HT_ rfl rfl ?_;refine pA 6 94 (mb 21 127) HT_ rfl rfl ?_;refine pA 7 95 (mb 21 255) HT_ rfl rfl ?_;refine pA 8 96 (mb 21 511) HT_ rfl rfl ?_;refine pA 9 97 (mb 21 1023) HT_ rfl rfl ?_;refine pA 10 98 (mb 21 2047) HT_ rfl rfl ?_;refine pA 11 99 (mb 21 4095) HT_ rfl rfl ?_;refine pA 12 100 (mb 21 8191) HT_ rfl rfl ?_;refine pA 13 101 (mb 21 16383) HT_ rfl rfl ?_;refine pA 15 103 (mb 21 49151) HT_ rfl rfl ?_;refine pA 16 104 (mb 21 114687) HT_ rfl rfl ?_;refine pA 17 105 (mb 21 245759) HT_ rfl rfl ?_;refine tA 14 102 (mb 21 262143) HT_ HW_ hHeld rfl rfl (by rintro w' ⟨s0, s1⟩;go_simp;with_reducible rfl) ?_;refine tA 18 106 (mb 21 524287) HT_ HW_ hHeld rfl rfl (by rintro w' ⟨s0, s1⟩;go_simp;with_reducible rfl) ?_;refine pA 19 107 (mb 21 1048575) HT_ rfl rfl ?_;refine pA 20 108 (mb 21 2097151) HT_ rfl rfl ?_;refine done_ (done_of HT_.out (by kernel_rfl)) ?_
                        try go_wp2
                        go_meet
                        case rel => exact ⟨_, (((rdOf ByteArray.empty l0 t159).toList == (rdOf ByteArray.empty l1 t159).toList)), (by first|rfl|(simp only [i64_w, i32_w];done)|(simp only [i64_w, i32_w];rfl)|(simp;done)|(simp [*];done)), H', ⟨by have := HJ5.out;have := HJ28.out;first|omega|exact Nat.le_refl _⟩, ⟨kK⟩, ⟨kK⟩, ⟨eB⟩⟩
                      · rw [if_neg c55] at H;exact absurd H (by simp)
                    · rw [if_neg c54] at H;have c54b0 : decide (t159 < (l1.length : Int)) = false := decide_eq_false c54;clear c54;have H' := Aside0.mk H;clear H
                      try go_wp2
                      replace BK163 := Aside0.mk (blk_drew BK163.out);replace BK166 := Aside0.mk (blk_drew BK166.out);replace HB := Aside0.mk (below_drew1 HB.out);refine start_ (n := 21) (S := fun w' => True) (ds := []) (mb 21 0) (by kernel_rfl) rfl (by kernel_rfl) trivial (fun hHeld => ?_);refine with_tabW changeforgelaw1_LinesCommonMatchesSpec.tab9 changeforgelaw1_LinesCommonMatchesSpec.bits9 (fun HT_ HW_ => ?_);generalize wc.drew = w57 at BK163 BK166 HB hHeld ⊢;refine pA 0 88 (mb 21 1) HT_ rfl rfl ?_;refine pA 1 89 (mb 21 3) HT_ rfl rfl ?_;refine pA 2 90 (mb 21 7) HT_ rfl rfl ?_;refine pA 3 91 (mb 21 15) HT_ rfl rfl ?_;refine pA 4 92 (mb 21 31) HT_ rfl rfl ?_;refine pA 5 93 (mb 21 63) HT_ rfl rfl ?_;refine pA 6 94 (mb 21 127) HT_ rfl rfl ?_;refine pA 7 95 (mb 21 255) HT_ rfl rfl ?_;refine pA 8 96 (mb 21 511) HT_ rfl rfl ?_;refine pA 9 97 (mb 21 1023) HT_ rfl rfl ?_;refine pA 10 98 (mb 21 2047) HT_ rfl rfl ?_;refine pU 11 99 (mb 21 4095) HT_ rfl rfl ?_;refine pU 12 100 (mb 21 8191) HT_ rfl rfl ?_;refine pU 13 101 (mb 21 16383) HT_ rfl rfl ?_;refine pU 14 102 (mb 21 32767) HT_ rfl rfl ?_;refine pU 15 103 (mb 21 65535) HT_ rfl rfl ?_;refine pU 16 104 (mb 21 131071) HT_ rfl rfl ?_;refine pU 17 105 (mb 21 262143) HT_ rfl rfl ?_;refine pU 18 106 (mb 21 524287) HT_ rfl rfl ?_;refine pU 19 107 (mb 21 1048575) HT_ rfl rfl ?_;refine pA 20 108 (mb 21 2097151) HT_ rfl rfl ?_;refine done_ (done_of HT_.out (by kernel_rfl)) ?_
                      try go_wp2
                      go_meet
                      case rel => exact ⟨_, (false), (by first|rfl|(simp only [i64_w, i32_w];done)|(simp only [i64_w, i32_w];rfl)|(simp;done)|(simp [*];done)), H', ⟨by have := HJ5.out;have := HJ28.out;first|omega|exact Nat.le_refl _⟩, ⟨kK⟩, ⟨kK⟩, ⟨eB⟩⟩
                  · rw [if_neg c53] at H;have c53b0 : decide (t159 < (l0.length : Int)) = false := decide_eq_false c53;clear c53
                    (first|rw [c53b0]|(simp only [i64_w, i32_w];rw [c53b0])|skip)
                    have H' := Aside0.mk H;clear H
                    try go_wp2
                    replace BK163 := Aside0.mk (blk_drew BK163.out);replace BK166 := Aside0.mk (blk_drew BK166.out);replace HB := Aside0.mk (below_drew1 HB.out);refine start_ (n := 21) (S := fun w' => True) (ds := []) (mb 21 0) (by kernel_rfl) rfl (by kernel_rfl) trivial (fun hHeld => ?_);refine with_tabW changeforgelaw1_LinesCommonMatchesSpec.tab9 changeforgelaw1_LinesCommonMatchesSpec.bits9 (fun HT_ HW_ => ?_);generalize wc.drew = w58 at BK163 BK166 HB hHeld ⊢;refine pA 0 88 (mb 21 1) HT_ rfl rfl ?_;refine pA 1 89 (mb 21 3) HT_ rfl rfl ?_;refine pA 2 90 (mb 21 7) HT_ rfl rfl ?_;refine pA 3 91 (mb 21 15) HT_ rfl rfl ?_;refine pA 4 92 (mb 21 31) HT_ rfl rfl ?_;refine pU 5 93 (mb 21 63) HT_ rfl rfl ?_;refine pU 6 94 (mb 21 127) HT_ rfl rfl ?_;refine pU 7 95 (mb 21 255) HT_ rfl rfl ?_;refine pU 8 96 (mb 21 511) HT_ rfl rfl ?_;refine pA 9 97 (mb 21 1023) HT_ rfl rfl ?_;refine pA 10 98 (mb 21 2047) HT_ rfl rfl ?_;refine pU 11 99 (mb 21 4095) HT_ rfl rfl ?_;refine pU 12 100 (mb 21 8191) HT_ rfl rfl ?_;refine pU 13 101 (mb 21 16383) HT_ rfl rfl ?_;refine pU 14 102 (mb 21 32767) HT_ rfl rfl ?_;refine pU 15 103 (mb 21 65535) HT_ rfl rfl ?_;refine pU 16 104 (mb 21 131071) HT_ rfl rfl ?_;refine pU 17 105 (mb 21 262143) HT_ rfl rfl ?_;refine pU 18 106 (mb 21 524287) HT_ rfl rfl ?_;refine pU 19 107 (mb 21 1048575) HT_ rfl rfl ?_;refine pA 20 108 (mb 21 2097151) HT_ rfl rfl ?_;refine done_ (done_of HT_.out (by kernel_rfl)) ?_
                    try go_wp2
                    go_meet
                    case rel => exact ⟨_, (false), (by first|rfl|(simp only [i64_w, i32_w];done)|(simp only [i64_w, i32_w];rfl)|(simp;done)|(simp [*];done)), H', ⟨by have := HJ5.out;have := HJ28.out;first|omega|exact Nat.le_refl _⟩, ⟨kK⟩, ⟨kK⟩, ⟨eB⟩⟩
                case rest =>
                  clear HC52
                  try clear p1
                  try clear q1
                  try clear hx1
                  try clear c2
                  try clear p2
                  try clear c3
                  try clear c4
                  try clear c5
                  try clear p6
                  try clear p17
                  try clear q17
                  try clear hx17
                  try clear c24
                  try clear c26
                  try clear c28
                  try clear c30
                  try clear c30b0
                  try clear c30b1
                  try clear c31
                  try clear c31b0
                  try clear c31b1
                  try clear c32
                  try clear c32b0
                  try clear c33
                  try clear c33b0
                  try clear c33b1
                  try clear c35
                  try clear c37
                  try clear c37b0
                  try clear c37b1
                  try clear c38
                  try clear c38b0
                  try clear c38b1
                  try clear c40
                  try clear c40b0
                  try clear c40b1
                  try clear c41
                  try clear c41b0
                  try clear c41b1
                  try clear c51
                  try clear c53
                  try clear c53b0
                  try clear c54
                  try clear c54b0
                  try clear c55
                  try clear c55b0
                  try clear hcz13_0
                  try clear hcz13_1
                  try clear hcz17_0
                  try clear hcz17_1
                  try clear hcz20_0
                  try clear hcz20_1
                  try clear hcz23_0
                  try clear hcz23_1
                  try clear hcz25_0
                  try clear hcz25_1
                  try clear hcz27_0
                  try clear hcz27_1
                  try clear hcz9_0
                  try clear hcz9_1
                  try clear hfz13_0
                  try clear hfz13_1
                  try clear hfz17_0
                  try clear hfz17_1
                  try clear hfz20_0
                  try clear hfz20_1
                  try clear hfz23_0
                  try clear hfz23_1
                  try clear hfz25_0
                  try clear hfz25_1
                  try clear hfz27_0
                  try clear hfz27_1
                  try clear hfz9_0
                  try clear hfz9_1
                  try clear hx174_0
                  try clear hx175_0
                  try clear p174
                  try clear p175
                  try clear p2
                  try clear p6
                  try clear q174
                  try clear q175
                  obtain ⟨kq, x108_51, rfl, HA, HJ51, BK163, BK166, HB⟩ := hcut
                  cases kq with
                  | zero => exact absurd HA.out (by simp [changeforgelaw1_LinesCommonMatchesSpec.j2])
                  | succ kj51 =>
                    have H := HA.out;clear HA;simp only [changeforgelaw1_LinesCommonMatchesSpec.j2] at H
                    by_cases c59 : x108_51 = true
                    · subst c59;have H1 : (some false) = some r := (by rw [if_pos rfl] at H;exact H);clear H;have H := H1;clear H1;obtain rfl := Option.some.inj H;exact absurd hrt (by decide)
                    · replace c59 := Bool.eq_false_iff.mpr c59;subst c59;have H1 : (if (wrap64 (t159 + t160)) < (l0.length : Int) then (changeforgelaw1_LinesCommonMatchesSpec.j3 kj51 l0 l1 t160 (decide ((wrap64 (t159 + t160)) < (l1.length : Int)))) else (changeforgelaw1_LinesCommonMatchesSpec.j3 kj51 l0 l1 t160 false)) = some r := (by rw [if_neg (show ¬ (false = true) by decide)] at H;exact H);clear H;have H := H1;clear H1;have HC60 := Aside0.mk H;clear H
                      go_upto_region 11 with (fail)
                      go_cut [9] (fun v9 wc => ∃ (kq : Nat) (x9_59 : Bool), v9 = .bool x9_59 ∧ Aside0 (changeforgelaw1_LinesCommonMatchesSpec.j3 kq l0 l1 t160 x9_59 = some r) ∧ Aside0 (kq ≤ kj51) ∧ Aside0 (wc.heap[gb163]? = some (.cells #[.int .i64 t161, .int .i64 t162] 24 (0, 0))) ∧ Aside0 (wc.heap[gb166]? = some (.cells #[.int .i64 t164, .int .i64 t165] 24 (0, 0))) ∧ Aside0 (Below w.heap.size w wc))
                      case first =>
                        have H := HC60.out;clear HC60
                        by_cases c61 : (wrap64 (t159 + t160)) < (l0.length : Int)
                        · rw [if_pos c61] at H;have c61b0 : decide ((wrap64 (t159 + t160)) < (l0.length : Int)) = true := decide_eq_true c61;clear c61
                          (first|rw [c61b0]|(simp only [i64_w, i32_w];rw [c61b0])|skip)
                          have H' := Aside0.mk H;clear H
                          go_wp2
                          go_meet
                          case rel => exact ⟨_, (decide ((wrap64 (t159 + t160)) < (l1.length : Int))), (by first|rfl|(simp only [i64_w, i32_w];done)|(simp only [i64_w, i32_w];rfl)|(simp;done)|(simp [*];done)), H', ⟨by have := HJ5.out;have := HJ28.out;have := HJ51.out;first|omega|exact Nat.le_refl _⟩, ⟨kK⟩, ⟨kK⟩, ⟨eB⟩⟩
                        · rw [if_neg c61] at H;have c61b0 : decide ((wrap64 (t159 + t160)) < (l0.length : Int)) = false := decide_eq_false c61;clear c61
                          (first|rw [c61b0]|(simp only [i64_w, i32_w];rw [c61b0])|skip)
                          have H' := Aside0.mk H;clear H
                          go_wp2
                          go_meet
                          case rel => exact ⟨_, (false), (by first|rfl|(simp only [i64_w, i32_w];done)|(simp only [i64_w, i32_w];rfl)|(simp;done)|(simp [*];done)), H', ⟨by have := HJ5.out;have := HJ28.out;have := HJ51.out;first|omega|exact Nat.le_refl _⟩, ⟨kK⟩, ⟨kK⟩, ⟨eB⟩⟩
                      case rest =>
                        clear HC60
                        try clear p1
                        try clear q1
                        try clear hx1
                        try clear c2
                        try clear p2
                        try clear c3
                        try clear c4
                        try clear c5
                        try clear c6
                        try clear p6
                        try clear p17
                        try clear q17
                        try clear hx17
                        try clear c24
                        try clear c26
                        try clear c28
                        try clear c30
                        try clear c30b0
                        try clear c30b1
                        try clear c31
                        try clear c31b0
                        try clear c31b1
                        try clear c32
                        try clear c32b0
                        try clear c33
                        try clear c33b0
                        try clear c33b1
                        try clear c35
                        try clear c37
                        try clear c37b0
                        try clear c37b1
                        try clear c38
                        try clear c38b0
                        try clear c38b1
                        try clear c40
                        try clear c40b0
                        try clear c40b1
                        try clear c41
                        try clear c41b0
                        try clear c41b1
                        try clear c51
                        try clear c53
                        try clear c53b0
                        try clear c54
                        try clear c54b0
                        try clear c55
                        try clear c55b0
                        try clear c59
                        try clear c61
                        try clear c61b0
                        try clear hcz13_0
                        try clear hcz13_1
                        try clear hcz17_0
                        try clear hcz17_1
                        try clear hcz20_0
                        try clear hcz20_1
                        try clear hcz23_0
                        try clear hcz23_1
                        try clear hcz25_0
                        try clear hcz25_1
                        try clear hcz27_0
                        try clear hcz27_1
                        try clear hcz9_0
                        try clear hcz9_1
                        try clear hfz13_0
                        try clear hfz13_1
                        try clear hfz17_0
                        try clear hfz17_1
                        try clear hfz20_0
                        try clear hfz20_1
                        try clear hfz23_0
                        try clear hfz23_1
                        try clear hfz25_0
                        try clear hfz25_1
                        try clear hfz27_0
                        try clear hfz27_1
                        try clear hfz9_0
                        try clear hfz9_1
                        try clear hx174_0
                        try clear hx175_0
                        try clear p1
                        try clear p17
                        try clear p174
                        try clear p175
                        try clear p2
                        try clear p6
                        try clear q1
                        try clear q17
                        try clear q174
                        try clear q175
                        obtain ⟨kq, x9_59, rfl, HA, HJ59, BK163, BK166, HB⟩ := hcut
                        cases kq with
                        | zero => exact absurd HA.out (by simp [changeforgelaw1_LinesCommonMatchesSpec.j3])
                        | succ kj59 =>
                          have H := HA.out;clear HA;simp only [changeforgelaw1_LinesCommonMatchesSpec.j3] at H
                          by_cases c62 : x9_59 = true
                          · subst c62;have H1 : (if 0 ≤ (wrap64 ((wrap64 ((l0.length : Int) - t160)) - 1)) then (if (wrap64 ((wrap64 ((l0.length : Int) - t160)) - 1)) < (l0.length : Int) then (if 0 ≤ (wrap64 ((wrap64 ((l1.length : Int) - t160)) - 1)) then (if (wrap64 ((wrap64 ((l1.length : Int) - t160)) - 1)) < (l1.length : Int) then (if (rdOf ByteArray.empty l0 (wrap64 ((wrap64 ((l0.length : Int) - t160)) - 1))).toList = (rdOf ByteArray.empty l1 (wrap64 ((wrap64 ((l1.length : Int) - t160)) - 1))).toList then (some false) else ((changeforgelaw1_pair.f).bind fun t178 => (some t178))) else (none)) else (none)) else (none)) else (none)) = some r := (by rw [if_pos rfl] at H;exact H);clear H;have H := H1;clear H1;obtain ⟨ji63, hji63⟩ : ∃ j_ : Int, (wrap64 ((wrap64 ((l0.length : Int) - t160)) - 1)) = j_ := ⟨_, rfl⟩;replace H : (if 0 ≤ (ji63) then (if (ji63) < (l0.length : Int) then (if 0 ≤ (wrap64 ((wrap64 ((l1.length : Int) - t160)) - 1)) then (if (wrap64 ((wrap64 ((l1.length : Int) - t160)) - 1)) < (l1.length : Int) then (if (rdOf ByteArray.empty l0 (ji63)).toList = (rdOf ByteArray.empty l1 (wrap64 ((wrap64 ((l1.length : Int) - t160)) - 1))).toList then (some false) else ((changeforgelaw1_pair.f).bind fun t178 => (some t178))) else (none)) else (none)) else (none)) else (none)) = some r := (by first|(rw [hji63] at H;exact H)|(simp only [hji63] at H ⊢;exact H));have hji63w : (IntKind.i64.wrap ((wrap64 ((l0.length : Int) - t160)) - 1)) = ji63 := (i64_w _).trans hji63
                            by_cases c64 : 0 ≤ (ji63)
                            · rw [if_pos c64] at H;have c64b0 : decide (0 ≤ (ji63)) = true := decide_eq_true c64;clear c64
                              by_cases c65 : (ji63) < (l0.length : Int)
                              · rw [if_pos c65] at H;have c65b0 : decide ((ji63) < (l0.length : Int)) = true := decide_eq_true c65;clear c65;obtain ⟨ji66, hji66⟩ : ∃ j_ : Int, (wrap64 ((wrap64 ((l1.length : Int) - t160)) - 1)) = j_ := ⟨_, rfl⟩;replace H : (if 0 ≤ (ji66) then (if (ji66) < (l1.length : Int) then (if (rdOf ByteArray.empty l0 (ji63)).toList = (rdOf ByteArray.empty l1 (ji66)).toList then (some false) else ((changeforgelaw1_pair.f).bind fun t178 => (some t178))) else (none)) else (none)) = some r := (by first|(rw [hji66] at H;exact H)|(simp only [hji66] at H ⊢;exact H));have hji66w : (IntKind.i64.wrap ((wrap64 ((l1.length : Int) - t160)) - 1)) = ji66 := (i64_w _).trans hji66
                                by_cases c67 : 0 ≤ (ji66)
                                · rw [if_pos c67] at H;have c67b0 : decide (0 ≤ (ji66)) = true := decide_eq_true c67;clear c67
                                  by_cases c68 : (ji66) < (l1.length : Int)
                                  · rw [if_pos c68] at H;have c68b0 : decide ((ji66) < (l1.length : Int)) = true := decide_eq_true c68;clear c68
                                    by_cases c69 : (rdOf ByteArray.empty l0 (ji63)).toList = (rdOf ByteArray.empty l1 (ji66)).toList
                                    · rw [if_pos c69] at H;have c69b0 : ((rdOf ByteArray.empty l0 (ji63)).toList == (rdOf ByteArray.empty l1 (ji66)).toList) = true := beq_iff_eq.mpr c69;have c69b1 : ((rdOf ByteArray.empty l0 (ji63)).toList != (rdOf ByteArray.empty l1 (ji66)).toList) = false := bne_eq_false_iff_eq.mpr c69;clear c69;obtain rfl := Option.some.inj H;exact absurd hrt (by decide)
                                    · rw [if_neg c69] at H;have c69b0 : ((rdOf ByteArray.empty l0 (ji63)).toList == (rdOf ByteArray.empty l1 (ji66)).toList) = false := beq_eq_false_iff_ne.mpr c69;have c69b1 : ((rdOf ByteArray.empty l0 (ji63)).toList != (rdOf ByteArray.empty l1 (ji66)).toList) = true := bne_iff_ne.mpr c69;replace H := Option.bind_eq_some_iff.mp H;obtain ⟨t178, A710, H⟩ := H;replace H : (some t178) = some r := H;have A71 := Aside0.mk A710;clear A710;obtain rfl := Option.some.inj H
                                      try go_wp2
                                      replace BK163 := Aside0.mk (blk_drew BK163.out);replace BK166 := Aside0.mk (blk_drew BK166.out);replace HB := Aside0.mk (below_drew1 HB.out);have p176 : 0 ≤ ((ji63) : Int) := dA;have q176 : (ji63) < (l0.length : Int) := dA;obtain ⟨ad176, e176, hx176_0⟩ := Kd.at_string HR0.out (ji63) p176 q176;have hw176_0 := hx176_0
                                      cases e176
                                      replace hx176_0 := (hX HB hx176_0:);replace p176 := eq_true p176;replace q176 := eq_true q176;have p177 : 0 ≤ ((ji66) : Int) := dA;have q177 : (ji66) < (l1.length : Int) := dA;obtain ⟨ad177, e177, hx177_0⟩ := Kd.at_string HR1.out (ji66) p177 q177;have hw177_0 := hx177_0
                                      cases e177
                                      replace hx177_0 := (hX HB hx177_0:);replace p177 := eq_true p177;replace q177 := eq_true q177;refine start_ (n := 25) (S := fun w' => w'.cell? (ad176.add ((ji63)).toNat) = some (.string (rdOf ByteArray.empty l0 (ji63))) ∧ w'.cell? (ad177.add ((ji66)).toNat) = some (.string (rdOf ByteArray.empty l1 (ji66)))) (ds := []) (mb 25 0) (by kernel_rfl) rfl (by kernel_rfl) ⟨(hX HB hw176_0:), (hX HB hw177_0:)⟩ (fun hHeld => ?_);refine with_tabW changeforgelaw1_LinesCommonMatchesSpec.tab12 changeforgelaw1_LinesCommonMatchesSpec.bits12 (fun HT_ HW_ => ?_);generalize wc.drew = w72 at BK163 BK166 HB hx176_0 hx177_0 hHeld ⊢;refine pA 0 123 (mb 25 1) HT_ rfl rfl ?_;refine pA 1 124 (mb 25 3) HT_ rfl rfl ?_;refine pA 2 125 (mb 25 7) HT_ rfl rfl ?_;refine pA 3 126 (mb 25 15) HT_ rfl rfl ?_;refine pA 4 127 (mb 25 31) HT_ rfl rfl ?_;refine pA 5 128 (mb 25 63) HT_ rfl rfl ?_;refine pA 6 129 (mb 25 127) HT_ rfl rfl ?_;refine pA 7 130 (mb 25 255) HT_ rfl rfl ?_;refine pA 8 131 (mb 25 511) HT_ rfl rfl ?_;refine pA 9 132 (mb 25 1023) HT_ rfl rfl ?_;refine pA 11 134 (mb 25 3071) HT_ rfl rfl ?_;refine pA 12 135 (mb 25 7167) HT_ rfl rfl ?_;refine pA 13 136 (mb 25 15359) HT_ rfl rfl ?_;refine pA 14 137 (mb 25 31743) HT_ rfl rfl ?_;refine pA 15 138 (mb 25 64511) HT_ rfl rfl ?_;refine pA 16 139 (mb 25 130047) HT_ rfl rfl ?_;refine pA 17 140 (mb 25 261119) HT_ rfl rfl ?_;refine tA 10 133 (mb 25 262143) HT_ HW_ hHeld rfl rfl (by rintro w' ⟨s0, s1⟩;go_simp;with_reducible rfl) ?_;refine tA 18 141 (mb 25 524287) HT_ HW_ hHeld rfl rfl (by rintro w' ⟨s0, s1⟩;go_simp;with_reducible rfl) ?_;refine pA 19 142 (mb 25 1048575) HT_ rfl rfl ?_;refine pA 20 143 (mb 25 2097151) HT_ rfl rfl ?_;refine pA 21 144 (mb 25 4194303) HT_ rfl rfl ?_;refine one_ (i := 22) (N := some 145) (mb 25 8388607) rfl rfl (one_of HT_.out (by kernel_rfl)) (by decide) (fun K hK => ?_);refine goes_ Try.func32 (by kernel_rfl) rfl #[] (by rfl) rfl rfl mA ?_
                                      with_reducible refine (changeforgelaw1_pair.calls  t178 _ A71.out).mono ?_
                                      rintro e w73 ⟨rfl, hb⟩
                                      refine ⟨_, rfl, ?_⟩;replace BK163 := lJ BK163 hb;replace BK166 := lJ BK166 hb;replace HB := sBe HB hb;(try clear hb);refine hK.out _ _ ⟨(hX HB hw176_0:), (hX HB hw177_0:)⟩ (fun hHeld => ?_);clear hK K;refine nmA ?_;refine pA 23 146 (mb 25 16777215) HT_ rfl rfl ?_;refine pA 24 4 (mb 25 33554431) HT_ rfl rfl ?_;refine done_ (done_of HT_.out (by kernel_rfl)) ?_
                                      try go_wp2
                                      go_ret
                                      exact ⟨by first|rfl|(simp [errW_none, errW_some] <;> rfl)|(simp only [← hji63, ← hji66];first|rfl|(simp [errW_none, errW_some] <;> rfl))|(simp [*, errW_none, errW_some] <;> rfl), eB⟩
                                  · rw [if_neg c68] at H;exact absurd H (by simp)
                                · rw [if_neg c67] at H;exact absurd H (by simp)
                              · rw [if_neg c65] at H;exact absurd H (by simp)
                            · rw [if_neg c64] at H;exact absurd H (by simp)
                          · replace c62 := Bool.eq_false_iff.mpr c62;subst c62;have H1 : ((changeforgelaw1_pair.f).bind fun t179 => (some t179)) = some r := (by rw [if_neg (show ¬ (false = true) by decide)] at H;exact H);clear H;have H := H1;clear H1;replace H := Option.bind_eq_some_iff.mp H;obtain ⟨t179, A740, H⟩ := H;replace H : (some t179) = some r := H;have A74 := Aside0.mk A740;clear A740;obtain rfl := Option.some.inj H
                            try go_wp2
                            replace BK163 := Aside0.mk (blk_drew BK163.out);replace BK166 := Aside0.mk (blk_drew BK166.out);replace HB := Aside0.mk (below_drew1 HB.out);refine start_ (n := 25) (S := fun w' => True) (ds := []) (mb 25 0) (by kernel_rfl) rfl (by kernel_rfl) trivial (fun hHeld => ?_);refine with_tabW changeforgelaw1_LinesCommonMatchesSpec.tab12 changeforgelaw1_LinesCommonMatchesSpec.bits12 (fun HT_ HW_ => ?_);generalize wc.drew = w75 at BK163 BK166 HB hHeld ⊢;refine pA 0 123 (mb 25 1) HT_ rfl rfl ?_;refine pA 1 124 (mb 25 3) HT_ rfl rfl ?_;refine pA 2 125 (mb 25 7) HT_ rfl rfl ?_;refine pU 3 126 (mb 25 15) HT_ rfl rfl ?_;refine pU 4 127 (mb 25 31) HT_ rfl rfl ?_;refine pU 5 128 (mb 25 63) HT_ rfl rfl ?_;refine pU 6 129 (mb 25 127) HT_ rfl rfl ?_;refine pU 7 130 (mb 25 255) HT_ rfl rfl ?_;refine pU 8 131 (mb 25 511) HT_ rfl rfl ?_;refine pU 9 132 (mb 25 1023) HT_ rfl rfl ?_;refine pU 10 133 (mb 25 2047) HT_ rfl rfl ?_;refine pU 11 134 (mb 25 4095) HT_ rfl rfl ?_;refine pU 12 135 (mb 25 8191) HT_ rfl rfl ?_;refine pU 13 136 (mb 25 16383) HT_ rfl rfl ?_;refine pU 14 137 (mb 25 32767) HT_ rfl rfl ?_;refine pU 15 138 (mb 25 65535) HT_ rfl rfl ?_;refine pU 16 139 (mb 25 131071) HT_ rfl rfl ?_;refine pU 17 140 (mb 25 262143) HT_ rfl rfl ?_;refine pU 18 141 (mb 25 524287) HT_ rfl rfl ?_;refine pU 19 142 (mb 25 1048575) HT_ rfl rfl ?_;refine pA 20 143 (mb 25 2097151) HT_ rfl rfl ?_;refine pA 21 144 (mb 25 4194303) HT_ rfl rfl ?_;refine one_ (i := 22) (N := some 145) (mb 25 8388607) rfl rfl (one_of HT_.out (by kernel_rfl)) (by decide) (fun K hK => ?_);refine goes_ Try.func32 (by kernel_rfl) rfl #[] (by rfl) rfl rfl mA ?_
                            with_reducible refine (changeforgelaw1_pair.calls  t179 _ A74.out).mono ?_
                            rintro e w76 ⟨rfl, hb⟩
                            refine ⟨_, rfl, ?_⟩;replace BK163 := lJ BK163 hb;replace BK166 := lJ BK166 hb;replace HB := sBe HB hb;(try clear hb);refine hK.out _ _ trivial (fun hHeld => ?_);clear hK K;refine nmA ?_;refine pA 23 146 (mb 25 16777215) HT_ rfl rfl ?_;refine pA 24 4 (mb 25 33554431) HT_ rfl rfl ?_;refine done_ (done_of HT_.out (by kernel_rfl)) ?_
                            try go_wp2
                            go_ret
                            exact ⟨rW, eB⟩
  · rw [if_neg c5] at H;have c5b0 : (t164 == 0) = false := beq_eq_false_iff_ne.mpr c5;have c5b1 : (t164 != 0) = true := bne_iff_ne.mpr c5
    by_cases c77 : (t161 == t164 && (t162 == t165)) = true
    · rw [if_pos c77] at H;have c77b0 : (t161 == t164 && (t162 == t165)) = true := c77;(try (have c77b1 : decide (t161 = t164 && (t162 == t165)) = true := by simpa using c77));(try (have c77b2 : (t161 == t164 && (t162 == t165)) = true := by simpa using c77));clear c77
      by_cases c78 : t159 = 0
      · rw [if_pos c78] at H;have c78b0 : (t159 == 0) = true := beq_iff_eq.mpr c78;have c78b1 : (t159 != 0) = false := bne_eq_false_iff_eq.mpr c78;clear c78
        by_cases c79 : t160 = 0
        · rw [if_pos c79] at H;have c79b0 : (t160 == 0) = true := beq_iff_eq.mpr c79;have c79b1 : (t160 != 0) = false := bne_eq_false_iff_eq.mpr c79;clear c79;replace H := Option.bind_eq_some_iff.mp H;obtain ⟨t167, A800, H⟩ := H;replace H : (some t167) = some r := H;have A80 := Aside0.mk A800;clear A800;obtain rfl := Option.some.inj H
          go_enter Try.func13, Try.ntmps13
          go_wp2_with (first|((with_reducible refine gate_callee (f := 33) rfl ?_);refine goesL_ (some 13) rfl rfl Try.func33 (by kernel_rfl) rfl #[.slice A0 l0.length c0, .slice A1 l1.length c1] rfl mA ?_;(with_reducible refine (lines_Common.calls _ _ l0 _ _ l1 t159 t160 t161 t162 _ ?side1 ?side2 ?side3 ?side4 A3.out).mono ?_);(case side1 => repeat (first|exact HR0.out|(with_reducible refine Kd.C_alloc ?_ _)|(with_reducible refine Kd.C_drewN ?_ _)|(with_reducible refine Kd.C_drew ?_)));(case side2 => exact HC0.out);(case side3 => repeat (first|exact HR1.out|(with_reducible refine Kd.C_alloc ?_ _)|(with_reducible refine Kd.C_drewN ?_ _)|(with_reducible refine Kd.C_drew ?_)));(case side4 => exact HC1.out);rintro e w81 ⟨rfl, hb⟩;refine ⟨_, rfl, ?_⟩;replace HB := sBe HB hb;(try clear hb))|((with_reducible refine gate_dst (N := 7) rfl ?_);(try (refine gate_guard (by rfl) ?_;dsimp only));refine bE 7 #[.int .i64 0, .int .i64 0] 24 ?_;intro gb163 hg w82 hbox hb;have BK163 := Aside0.mk (hbox);have GW163 := gBe HB hg;have GE163 := gBe HB hg;replace HB := sBe HB hb;clear hb hbox hg;have hcz83_0 := hC BK163 0 (.int .i64 0);have hcz83_1 := hC BK163 1 (.int .i64 0);have hfz83_0 := blk_frozen BK163.out 0;have hfz83_1 := blk_frozen BK163.out 1)|((with_reducible refine gate_callee (f := 34) rfl ?_);refine goesL_ (some 19) rfl rfl Try.func34 (by kernel_rfl) rfl #[.slice A0 l0.length c0, .slice A1 l1.length c1] rfl mA ?_;(with_reducible refine (changeforgeref1_TwoFault.calls _ _ l0 _ _ l1 t164 t165 _ ?side1 ?side2 ?side3 ?side4 A4.out).mono ?_);(case side1 => exact Kd.C_below HR0.out eB);(case side2 => exact HC0.out);(case side3 => exact Kd.C_below HR1.out eB);(case side4 => exact HC1.out);rintro e w84 ⟨rfl, hb⟩;refine ⟨_, rfl, ?_⟩;replace BK163 := lK gb163 24 #[.int .i64 t161, .int .i64 t162] hb;replace HB := sBe HB hb;(try clear hb))|((with_reducible refine gate_dst (N := 8) rfl ?_);(try (refine gate_guard (by rfl) ?_;dsimp only));refine bE 8 #[.int .i64 0, .int .i64 0] 24 ?_;intro gb166 hg w85 hbox hb;have BK166 := Aside0.mk (hbox);have GW166 := gBe HB hg;have GE166 := gBe HB hg;have NB163_166 := nL BK163 hg;have NB166_163 := nG BK163 hg;replace BK163 := lJ BK163 hb;replace HB := sBe HB hb;clear hb hbox hg;have hnb86 := NB166_163.out;have hnc86 := NB163_166.out;have hcz87_0 := hC BK166 0 (.int .i64 0);have hcz87_1 := hC BK166 1 (.int .i64 0);have hfz87_0 := blk_frozen BK166.out 0;have hfz87_1 := blk_frozen BK166.out 1;have hcz88_0 := hC BK163 0 (.int .i64 t161);have hcz88_1 := hC BK163 1 (.int .i64 t162);have hfz88_0 := blk_frozen BK163.out 0;have hfz88_1 := blk_frozen BK163.out 1)|(go_at_call 32;(with_reducible refine (changeforgelaw1_pair.calls  t167 _ A80.out).mono ?_);rintro e w89 ⟨rfl, hb⟩;replace BK163 := lJ BK163 hb;replace BK166 := lK gb166 24 #[.int .i64 t164, .int .i64 t165] hb;replace HB := sBe HB hb;(try clear hb)))
          go_ret
          exact ⟨rW, eB⟩
        · rw [if_neg c79] at H;have c79b0 : (t160 == 0) = false := beq_eq_false_iff_ne.mpr c79;have c79b1 : (t160 != 0) = true := bne_iff_ne.mpr c79;obtain rfl := Option.some.inj H;exact absurd hrt (by decide)
      · rw [if_neg c78] at H;have c78b0 : (t159 == 0) = false := beq_eq_false_iff_ne.mpr c78;have c78b1 : (t159 != 0) = true := bne_iff_ne.mpr c78;obtain rfl := Option.some.inj H;exact absurd hrt (by decide)
    · rw [if_neg c77] at H;have c77b0 : (t161 == t164 && (t162 == t165)) = false := (by simpa using c77);(try (have c77b1 : decide (t161 = t164 && (t162 == t165)) = false := by simpa using c77));(try (have c77b2 : (t161 == t164 && (t162 == t165)) = false := by simpa using c77));(try (have c77b3 : ¬ (t161 = t164 && (t162 == t165)) := by simpa using c77));clear c77;obtain rfl := Option.some.inj H;exact absurd hrt (by decide)
/-- THE ONE PURE STATEMENT of changeforgelaw1_LinesCommonMatchesSpec: yours. -/
def changeforgelaw1_LinesCommonMatchesSpec.Pure : Prop := ∀ (l0 : List ByteArray) (l1 : List ByteArray), l0.length ≤ maxLen → l0.length * 16 ≤ 140737488351232 → (∀ x ∈ l0, x.size ≤ maxLen) → l1.length ≤ maxLen → l1.length * 16 ≤ 140737488351232 → (∀ x ∈ l1, x.size ≤ maxLen) → ∃ k, changeforgelaw1_LinesCommonMatchesSpec.f k l0 l1 = some true
theorem changeforgelaw1_LinesCommonMatchesSpec.walk (P : changeforgelaw1_LinesCommonMatchesSpec.Pure) (A0 : Option Addr) (c0 : Nat) (l0 : List ByteArray) (A1 : Option Addr) (c1 : Nat) (l1 : List ByteArray) (w : World) (hr0 : Kd.C Kd.string w A0 l0.length l0) (hc0 : l0.length ≤ c0) (hm0 : l0.length ≤ maxLen) (hs0 : l0.length * 16 ≤ 140737488351232) (he0 : ∀ x ∈ l0, x.size ≤ maxLen) (hr1 : Kd.C Kd.string w A1 l1.length l1) (hc1 : l1.length ≤ c1) (hm1 : l1.length ≤ maxLen) (hs1 : l1.length * 16 ≤ 140737488351232) (he1 : ∀ x ∈ l1, x.size ≤ maxLen) :
    Calls Try.prog 13 #[.slice A0 l0.length c0, .slice A1 l1.length c1] w fun e w' => e = .returned (.bool true) ∧ Below w.heap.size w w' := by
  obtain ⟨k, h⟩ := P l0 l1 hm0 hs0 he0 hm1 hs1 he1;refine (changeforgelaw1_LinesCommonMatchesSpec.calls k _ _ l0 _ _ l1 true w hr0 hc0 hr1 hc1 h rfl).mono ?_
  rintro e w' ⟨rfl, hd⟩
  exact ⟨rfl, hd⟩

end Go.Proofs.Ytdefgagmgbkklaa.PC
