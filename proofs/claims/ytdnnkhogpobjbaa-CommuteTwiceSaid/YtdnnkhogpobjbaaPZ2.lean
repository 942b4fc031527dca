/- Printed by a program of this session out of the translation: Lean functions for Go functions, and proofs that the Go functions answer the same. -/
import Derived.Test.YtdnnkhogpobjbaaPZ0
namespace Go.Proofs.Ytdnnkhogpobjbaa.PZ
open Go.RowKit Go.Proofs.Ytdnnkhogpobjbaa.Pre Go.Proofs.YtdnnkhogpobjbaaW.PrintWords Go.Proofs.YtdnnkhogpobjbaaW.PrintLast Go.Proofs.YtdnnkhogpobjbaaW.PrintMore
attribute [local go_sem] max2_int min2_int max_two min_two max_three min_three max_four min_four   -- for this text's walks alone
set_option linter.unusedVariables false
set_option linter.unusedSimpArgs false

/-! ### changeforgeequal_Strings_0: function 21 -/
def changeforgeequal_Strings_0.l0 : Nat → List ByteArray → List ByteArray → Int → Option (Bool)
  | 0, _, _, _ => none
  | k + 1, x0, x1, x5 => if x5 < (x0.length : Int) then (if 0 ≤ x5 then (if x5 < (x1.length : Int) then (if (rdOf ByteArray.empty x0 x5).toList = (rdOf ByteArray.empty x1 x5).toList then (changeforgeequal_Strings_0.l0 k x0 x1 (wrap64 (x5 + 1))) else (some false)) else (none)) else (none)) else (some true)
def changeforgeequal_Strings_0.f (k : Nat) (l0 : List ByteArray) (l1 : List ByteArray) : Option (Bool) := if (l0.length : Int) = (l1.length : Int) then (changeforgeequal_Strings_0.l0 k l0 l1 0) else (some false)
theorem changeforgeequal_Strings_0.mono_l : ∀ k, (∀ y0 y1 y2, LeO (changeforgeequal_Strings_0.l0 k y0 y1 y2) (changeforgeequal_Strings_0.l0 (k + 1) y0 y1 y2))
  | 0 => fun _ _ _ r h => by simp [changeforgeequal_Strings_0.l0] at h
  | k + 1 => by
    have ih0 := changeforgeequal_Strings_0.mono_l k
    · intro y0 y1 y2
      unfold changeforgeequal_Strings_0.l0
      repeat' first
      | (with_reducible exact ih0 _ _ _)
      | (with_reducible exact LeO.refl _)
      | (with_reducible exact LeO.none _)
      | (with_reducible refine LeO.ite ?_ ?_)
      | (with_reducible refine LeO.bind ?_ (fun _ => ?_))
      | exact ih0 _ _ _
      | exact LeO.none _
      | refine LeO.ite ?_ ?_
      | refine LeO.bind ?_ (fun _ => ?_)
theorem changeforgeequal_Strings_0.mono : ∀ a0 a1 k, LeO (changeforgeequal_Strings_0.f k a0 a1) (changeforgeequal_Strings_0.f (k + 1) a0 a1) := by
  intro a0 a1 k
  have ih0 := changeforgeequal_Strings_0.mono_l k
  unfold changeforgeequal_Strings_0.f
  repeat' first
      | (with_reducible exact ih0 _ _ _)
      | (with_reducible exact LeO.refl _)
      | (with_reducible exact LeO.none _)
      | (with_reducible refine LeO.ite ?_ ?_)
      | (with_reducible refine LeO.bind ?_ (fun _ => ?_))
      | exact ih0 _ _ _
      | exact LeO.none _
      | refine LeO.ite ?_ ?_
      | refine LeO.bind ?_ (fun _ => ?_)
set_option maxHeartbeats 8000000 in
set_option maxRecDepth 100000 in
theorem changeforgeequal_Strings_0.calls (k : Nat) (A0 : Option Addr) (c0 : Nat) (l0 : List ByteArray) (A1 : Option Addr) (c1 : Nat) (l1 : List ByteArray) (r : Bool) (w : World) (hr0 : Kd.C Kd.string w A0 l0.length l0) (hc0 : l0.length ≤ c0) (hr1 : Kd.C Kd.string w A1 l1.length l1) (hc1 : l1.length ≤ c1) (h : changeforgeequal_Strings_0.f k l0 l1 = some r) :
    Calls Try.prog 21 #[.slice A0 l0.length c0, .slice A1 l1.length c1] w fun e w' => e = .returned (.bool r) ∧ Drawn0 w w' := by
  have HR0 := Aside0.mk hr0;have HC0 := Aside0.mk hc0;clear hr0 hc0;have HR1 := Aside0.mk hr1;have HC1 := Aside0.mk hc1;clear hr1 hc1;have H : (if (l0.length : Int) = (l1.length : Int) then (changeforgeequal_Strings_0.l0 k l0 l1 0) else (some false)) = some r := h;clear h
  by_cases c3 : (l0.length : Int) = (l1.length : Int)
  · rw [if_pos c3] at H;have c3b0 : ((l0.length : Int) == (l1.length : Int)) = true := beq_iff_eq.mpr c3;have c3b1 : ((l0.length : Int) != (l1.length : Int)) = false := bne_eq_false_iff_eq.mpr c3;have c3b2 : (l0.length == l1.length) = true := (by first|simpa using c3|(simp at c3 ⊢;omega));clear c3;have H' := Aside0.mk H;clear H
    go_enter Try.func21, Try.ntmps21
    go_wp2
    repeat (go_quiet (fail);try go_wp2)
    go_loopg [5] k (fun kq v5 w' => ∃ (x5_1 : Int), v5 = .int .i64 x5_1 ∧ Aside0 (changeforgeequal_Strings_0.l0 kq l0 l1 x5_1 = some r) ∧ Aside0 (kq ≤ k) ∧ Drawn0 w w')
    case atStart => exact ⟨(0), (by first|rfl|(simp only [i64_w, i32_w];done)|(simp only [i64_w, i32_w];rfl)|(simp;done)|(simp [*];done)), H', ⟨Nat.le_refl _⟩, by repeat (first|exact Drawn0.refl _|apply Drawn0.step)⟩
    case round =>
      clear H'
      try clear c1
      try clear c2
      try clear p2
      try clear c3
      try clear c3b0
      try clear c3b1
      try clear c3b2
      obtain ⟨x5_1, rfl, HA, HK1, ⟨m1, rfl⟩⟩ := hrel
      cases gk with
      | zero => exact absurd HA.out (by simp [changeforgeequal_Strings_0.l0])
      | succ k1 =>
        have H := HA.out;clear HA;simp only [changeforgeequal_Strings_0.l0] at H
        by_cases c4 : x5_1 < (l0.length : Int)
        · rw [if_pos c4] at H;have c4b0 : decide (x5_1 < (l0.length : Int)) = true := decide_eq_true c4;clear c4
          by_cases c5 : 0 ≤ x5_1
          · rw [if_pos c5] at H;have c5b0 : decide (0 ≤ x5_1) = true := decide_eq_true c5;clear c5
            by_cases c6 : x5_1 < (l1.length : Int)
            · rw [if_pos c6] at H;have c6b0 : decide (x5_1 < (l1.length : Int)) = true := decide_eq_true c6;clear c6
              by_cases c7 : (rdOf ByteArray.empty l0 x5_1).toList = (rdOf ByteArray.empty l1 x5_1).toList
              · rw [if_pos c7] at H;have c7b0 : ((rdOf ByteArray.empty l0 x5_1).toList == (rdOf ByteArray.empty l1 x5_1).toList) = true := beq_iff_eq.mpr c7;have c7b1 : ((rdOf ByteArray.empty l0 x5_1).toList != (rdOf ByteArray.empty l1 x5_1).toList) = false := bne_eq_false_iff_eq.mpr c7;clear c7;have H' := Aside0.mk H;clear H;have p101 : 0 ≤ (x5_1 : Int) := dA;have q101 : x5_1 < (l0.length : Int) := dA;obtain ⟨ad101, e101, hx101_0⟩ := Kd.at_string HR0.out x5_1 p101 q101
                cases e101
                replace p101 := eq_true p101;replace q101 := eq_true q101;have p102 : 0 ≤ (x5_1 : Int) := dA;have q102 : x5_1 < (l1.length : Int) := dA;obtain ⟨ad102, e102, hx102_0⟩ := Kd.at_string HR1.out x5_1 p102 q102
                cases e102
                replace p102 := eq_true p102;replace q102 := eq_true q102
                go_wp2
                repeat (go_quiet (fail);try go_wp2)
                go_roundg k1
                case measure => have := HK1.out;omega
                case rel => exact ⟨(wrap64 (x5_1 + 1)), (by first|rfl|(simp only [i64_w, i32_w];done)|(simp only [i64_w, i32_w];rfl)|(simp;done)|(simp [*];done)), H', ⟨by have := HK1.out;omega⟩, by repeat (first|exact Drawn0.refl _|apply Drawn0.step)⟩
              · rw [if_neg c7] at H;have c7b0 : ((rdOf ByteArray.empty l0 x5_1).toList == (rdOf ByteArray.empty l1 x5_1).toList) = false := beq_eq_false_iff_ne.mpr c7;have c7b1 : ((rdOf ByteArray.empty l0 x5_1).toList != (rdOf ByteArray.empty l1 x5_1).toList) = true := bne_iff_ne.mpr c7;obtain rfl := Option.some.inj H;have p101 : 0 ≤ (x5_1 : Int) := dA;have q101 : x5_1 < (l0.length : Int) := dA;obtain ⟨ad101, e101, hx101_0⟩ := Kd.at_string HR0.out x5_1 p101 q101
                cases e101
                replace p101 := eq_true p101;replace q101 := eq_true q101;have p102 : 0 ≤ (x5_1 : Int) := dA;have q102 : x5_1 < (l1.length : Int) := dA;obtain ⟨ad102, e102, hx102_0⟩ := Kd.at_string HR1.out x5_1 p102 q102
                cases e102
                replace p102 := eq_true p102;replace q102 := eq_true q102
                go_wp2
                repeat (go_quiet (fail);try go_wp2)
                go_ret
                exact ⟨by first|rfl|(simp;done)|(simp [*];done), by repeat (first|exact Drawn0.refl _|apply Drawn0.step)⟩
            · rw [if_neg c6] at H;exact absurd H (by simp)
          · rw [if_neg c5] at H;exact absurd H (by simp)
        · rw [if_neg c4] at H;have c4b0 : decide (x5_1 < (l0.length : Int)) = false := decide_eq_false c4;clear c4;obtain rfl := Option.some.inj H
          go_wp2
          repeat (go_quiet (fail);try go_wp2)
          go_ret
          exact ⟨by first|rfl|(simp;done)|(simp [*];done), by repeat (first|exact Drawn0.refl _|apply Drawn0.step)⟩
  · rw [if_neg c3] at H;have c3b0 : ((l0.length : Int) == (l1.length : Int)) = false := beq_eq_false_iff_ne.mpr c3;have c3b1 : ((l0.length : Int) != (l1.length : Int)) = true := bne_iff_ne.mpr c3;have c3b2 : (l0.length == l1.length) = false := (by first|simpa using c3|(simp at c3 ⊢;omega));obtain rfl := Option.some.inj H
    go_enter Try.func21, Try.ntmps21
    go_wp2
    repeat (go_quiet (fail);try go_wp2)
    go_ret
    exact ⟨by first|rfl|(simp;done)|(simp [*];done), by repeat (first|exact Drawn0.refl _|apply Drawn0.step)⟩

/-! ### changeforgeequal_Strings: function 21 -/
theorem changeforgeequal_Strings_0.loop (a b : List ByteArray) (hl : a.length = b.length) (hm : a.length ≤ 9223372036854775807) (d : Nat) : ∀ (k i : Nat), i ≤ a.length → a.length - i = d → d < k →
    changeforgeequal_Strings_0.l0 k a b (i : Int) = some (decide (a.drop i = b.drop i)) := by
  induction d with
  | zero =>
    intro k i hi hd hk
    obtain ⟨k, rfl⟩ : ∃ m, k = m + 1 := ⟨k - 1, by omega⟩
    simp only [changeforgeequal_Strings_0.l0]
    rw [if_neg (by omega), List.drop_eq_nil_of_le (by omega), List.drop_eq_nil_of_le (by omega)]
    rfl
  | succ d ih =>
    intro k i hi hd hk
    obtain ⟨k, rfl⟩ : ∃ m, k = m + 1 := ⟨k - 1, by omega⟩
    rw [rdOf_drop ByteArray.empty a i (by omega), rdOf_drop ByteArray.empty b i (by omega)]
    simp only [changeforgeequal_Strings_0.l0]
    rw [if_pos (by omega), if_pos (by omega), if_pos (by omega)]
    by_cases e : rdOf ByteArray.empty a (i : Int) = rdOf ByteArray.empty b (i : Int)
    · rw [if_pos (toList_inj.mpr e), w64 (by omega) (by omega)]
      have := ih k (i + 1) (by omega) (by omega) (by omega)
      rw [Int.natCast_add] at this
      rw [show (((1 : Nat) : Int)) = 1 from rfl] at this
      rw [this, e]
      simp
    · rw [if_neg (fun h => e (toList_inj.mp h))]
      simp [e]
def changeforgeequal_Strings.f (l0 : List ByteArray) (l1 : List ByteArray) : Option (Bool) :=  some (decide (l0 = l1))
theorem changeforgeequal_Strings.calls (A0 : Option Addr) (c0 : Nat) (l0 : List ByteArray) (A1 : Option Addr) (c1 : Nat) (l1 : List ByteArray) (r : Bool) (w : World) (hr0 : Kd.C Kd.string w A0 l0.length l0) (hc0 : l0.length ≤ c0) (hr1 : Kd.C Kd.string w A1 l1.length l1) (hc1 : l1.length ≤ c1) (h : changeforgeequal_Strings.f l0 l1 = some r) :
    Calls Try.prog 21 #[.slice A0 l0.length c0, .slice A1 l1.length c1] w fun e w' => e = .returned (.bool r) ∧ Drawn0 w w' := by
  have hm : l0.length ≤ 9223372036854775807 := hr0.2.1
  have h' : changeforgeequal_Strings_0.f (l0.length + 1) l0 l1 = some r := by
    rw [← h]
    unfold changeforgeequal_Strings_0.f changeforgeequal_Strings.f
    by_cases c : l0.length = l1.length
    · rw [if_pos (by omega)]
      have := changeforgeequal_Strings_0.loop l0 l1 c hm l0.length (l0.length + 1) 0 (by omega) (by omega) (by omega)
      simpa using this
    · rw [if_neg (by omega)]
      have : ¬ l0 = l1 := fun e => c (by rw [e])
      simp [this]
  exact (changeforgeequal_Strings_0.calls (l0.length + 1) A0 c0 l0 A1 c1 l1 r w hr0 hc0 hr1 hc1 (h'))


/-! ### changeforgeequal_Patch: function 22 -/
mutual
def changeforgeequal_Patch.l0 : Nat → Int → List (S47) → List (S47) → Option (Bool)
  | 0, _, _, _ => none
  | k + 1, x5, x104000, x105000 => if x5 < (x104000.length : Int) then (if 0 ≤ x5 then (if x5 < (x105000.length : Int) then (if ((rd_T47 x104000 x5).f0) = ((rd_T47 x105000 x5).f0) then ((changeforgeequal_Strings.f ((rd_T47 x104000 x5).f1) ((rd_T47 x105000 x5).f1)).bind fun t109 => (if t109 = true then ((changeforgeequal_Strings.f ((rd_T47 x104000 x5).f2) ((rd_T47 x105000 x5).f2)).bind fun t112 => (changeforgeequal_Patch.j1 k x5 (!t112) x104000 x105000)) else (changeforgeequal_Patch.j1 k x5 true x104000 x105000))) else (changeforgeequal_Patch.j1 k x5 true x104000 x105000)) else (none)) else (none)) else (some true)
def changeforgeequal_Patch.j1 : Nat → Int → Bool → List (S47) → List (S47) → Option (Bool)
  | 0, _, _, _, _ => none
  | k + 1, x5, x64, x104000, x105000 => if x64 = true then (some false) else (changeforgeequal_Patch.l0 k (wrap64 (x5 + 1)) x104000 x105000)
end
def changeforgeequal_Patch.f (k : Nat) (l0_0 : List (S47)) (l1_0 : List (S47)) : Option (Bool) := if (l0_0.length : Int) = (l1_0.length : Int) then (changeforgeequal_Patch.l0 k 0 l0_0 l1_0) else (some false)
theorem changeforgeequal_Patch.mono_l : ∀ k, (∀ y0 y1 y2, LeO (changeforgeequal_Patch.l0 k y0 y1 y2) (changeforgeequal_Patch.l0 (k + 1) y0 y1 y2)) ∧ (∀ y0 y1 y2 y3, LeO (changeforgeequal_Patch.j1 k y0 y1 y2 y3) (changeforgeequal_Patch.j1 (k + 1) y0 y1 y2 y3))
  | 0 => ⟨fun _ _ _ r h => by simp [changeforgeequal_Patch.l0] at h, fun _ _ _ _ r h => by simp [changeforgeequal_Patch.j1] at h⟩
  | k + 1 => by
    obtain ⟨ih0, ih1⟩ := changeforgeequal_Patch.mono_l k;refine ⟨?_, ?_⟩
    · intro y0 y1 y2
      unfold changeforgeequal_Patch.l0
      repeat' first
      | (with_reducible exact ih0 _ _ _)
      | (with_reducible exact ih1 _ _ _ _)
      | (with_reducible exact LeO.refl _)
      | (with_reducible exact LeO.none _)
      | (with_reducible refine LeO.ite ?_ ?_)
      | (with_reducible refine LeO.bind ?_ (fun _ => ?_))
      | exact ih0 _ _ _
      | exact ih1 _ _ _ _
      | exact LeO.none _
      | refine LeO.ite ?_ ?_
      | refine LeO.bind ?_ (fun _ => ?_)
    · intro y0 y1 y2 y3
      unfold changeforgeequal_Patch.j1
      repeat' first
      | (with_reducible exact ih0 _ _ _)
      | (with_reducible exact ih1 _ _ _ _)
      | (with_reducible exact LeO.refl _)
      | (with_reducible exact LeO.none _)
      | (with_reducible refine LeO.ite ?_ ?_)
      | (with_reducible refine LeO.bind ?_ (fun _ => ?_))
      | exact ih0 _ _ _
      | exact ih1 _ _ _ _
      | exact LeO.none _
      | refine LeO.ite ?_ ?_
      | refine LeO.bind ?_ (fun _ => ?_)
theorem changeforgeequal_Patch.mono : ∀ a0 a1 k, LeO (changeforgeequal_Patch.f k a0 a1) (changeforgeequal_Patch.f (k + 1) a0 a1) := by
  intro a0 a1 k
  obtain ⟨ih0, ih1⟩ := changeforgeequal_Patch.mono_l k
  unfold changeforgeequal_Patch.f
  repeat' first
      | (with_reducible exact ih0 _ _ _)
      | (with_reducible exact ih1 _ _ _ _)
      | (with_reducible exact LeO.refl _)
      | (with_reducible exact LeO.none _)
      | (with_reducible refine LeO.ite ?_ ?_)
      | (with_reducible refine LeO.bind ?_ (fun _ => ?_))
      | exact ih0 _ _ _
      | exact ih1 _ _ _ _
      | exact LeO.none _
      | refine LeO.ite ?_ ?_
      | refine LeO.bind ?_ (fun _ => ?_)
def changeforgeequal_Patch.T6 : Bool × List (List Nat × List Nat) := (true, [([], []), ([0], [0]), ([], []), ([1, 2], [1, 2]), ([3], [3]), ([4], [4]), ([], []), ([6], [6]), ([], []), ([7, 8], [7, 8]), ([9], [9]), ([10], [10]), ([5, 11], [5, 11]), ([12], [12]), ([13], [13]), ([14, 13], [13, 14]), ([13], [13]), ([15, 16, 13], [13, 15, 16]), ([17, 13], [13, 17]), ([18, 13], [13, 18]), ([13], [13]), ([20, 13], [13, 20]), ([13], [13]), ([21, 22, 13], [13, 21, 22]), ([23, 13], [13, 23]), ([24, 13], [13, 24]), ([19, 25, 13, 13], [13, 19, 25]), ([26, 13], [13, 26]), ([13, 27], [13, 27]), ([28, 26], [28]), ([29], [29]), ([30, 29], [29, 30]), ([29], [29]), ([31, 32, 29], [29, 31, 32]), ([33, 29], [29, 33]), ([34, 29], [29, 34]), ([29], [29]), ([36, 29], [29, 36]), ([29], [29]), ([37, 38, 29], [29, 37, 38]), ([39, 29], [29, 39]), ([40, 29], [29, 40]), ([35, 41, 29, 29], [29, 35, 41]), ([42, 29], [29, 42]), ([29, 43], [29, 43])])
def changeforgeequal_Patch.B6 : List Nat := [0, 1, 0, 7, 15, 31, 0, 64, 0, 448, 960, 1984, 4095, 8191, 16383, 32767, 16383, 131071, 262143, 524287, 16383, 1064959, 16383, 7356415, 15745023, 32522239, 67108863, 134217727, 268435455, 536870911, 1073741823, 2147483647, 1073741823, 8589934591, 17179869183, 34359738367, 1073741823, 69793218559, 1073741823, 482110078975, 1031865892863, 2131377520639, 4398046511103, 8796093022207, 17592186044415]
theorem changeforgeequal_Patch.tab6 : rtab .any (opsOf Try.f22 6) = changeforgeequal_Patch.T6 := by kernel_rfl
theorem changeforgeequal_Patch.bits6 : waitsOk changeforgeequal_Patch.T6.2 changeforgeequal_Patch.B6 = true := by kernel_rfl
set_option maxHeartbeats 8000000 in
set_option maxRecDepth 100000 in
theorem changeforgeequal_Patch.calls (k : Nat) (A0_0 : Option Addr) (c0_0 : Nat) (l0_0 : List (S47)) (A1_0 : Option Addr) (c1_0 : Nat) (l1_0 : List (S47)) (r : Bool) (w : World) (hr0_0 : Kd.C k47 w A0_0 l0_0.length l0_0) (hc0_0 : l0_0.length ≤ c0_0) (hr1_0 : Kd.C k47 w A1_0 l1_0.length l1_0) (hc1_0 : l1_0.length ≤ c1_0) (h : changeforgeequal_Patch.f k l0_0 l1_0 = some r) :
    Calls Try.prog 22 #[.agg #[.slice A0_0 l0_0.length c0_0], .agg #[.slice A1_0 l1_0.length c1_0]] w fun e w' => e = .returned (.bool r) ∧ Below w.heap.size w w' := by
  have hu24 := Try.underlying24;have HR0_0 := Aside0.mk hr0_0;have HC0_0 := Aside0.mk hc0_0;clear hr0_0 hc0_0;have HR1_0 := Aside0.mk hr1_0;have HC1_0 := Aside0.mk hc1_0;clear hr1_0 hc1_0;have HB := Aside0.mk (Below.refl w.heap.size w);have H : (if (l0_0.length : Int) = (l1_0.length : Int) then (changeforgeequal_Patch.l0 k 0 l0_0 l1_0) else (some false)) = some r := h;clear h
  by_cases c3 : (l0_0.length : Int) = (l1_0.length : Int)
  · rw [if_pos c3] at H;have c3b0 : ((l0_0.length : Int) == (l1_0.length : Int)) = true := beq_iff_eq.mpr c3;have c3b1 : ((l0_0.length : Int) != (l1_0.length : Int)) = false := bne_eq_false_iff_eq.mpr c3;have c3b2 : (l0_0.length == l1_0.length) = true := (by first|simpa using c3|(simp at c3 ⊢;omega));clear c3;have H' := Aside0.mk H;clear H
    go_enter Try.func22, Try.ntmps22
    go_wp2_with (first|((with_reducible refine gate_dst (N := 2) rfl ?_);refine bE 2 #[.slice A0_0 l0_0.length c0_0] 24 ?_;intro gb103 hg w4 hbox hb;have BK103 := Aside0.mk (hbox);have GW103 := gBe HB hg;have GE103 := gBe HB hg;replace HB := sBe HB hb;clear hb hbox hg)|((with_reducible refine gate_dst (N := 3) rfl ?_);refine bE 3 #[.slice A1_0 l1_0.length c1_0] 24 ?_;intro gb104 hg w5 hbox hb;have BK104 := Aside0.mk (hbox);have GW104 := gBe HB hg;have GE104 := gBe HB hg;have NB103_104 := nL BK103 hg;have NB104_103 := nG BK103 hg;replace BK103 := lJ BK103 hb;replace HB := sBe HB hb;clear hb hbox hg;have hnb6 := NB103_104.out;have hnc6 := NB104_103.out;have hcz7_0 := hC BK103 0 (.slice A0_0 l0_0.length c0_0);have hfz7_0 := blk_frozen BK103.out 0;have hcz8_0 := hC BK104 0 (.slice A1_0 l1_0.length c1_0);have hfz8_0 := blk_frozen BK104.out 0))
    go_loopg [5] k (fun kq v5 w' => ∃ (x5_1 : Int), v5 = .int .i64 x5_1 ∧ Aside0 (changeforgeequal_Patch.l0 kq x5_1 l0_0 l1_0 = some r) ∧ Aside0 (kq ≤ k) ∧ Bk w' gb103 24 #[(.slice A0_0 l0_0.length c0_0)] ∧ Bk w' gb104 24 #[(.slice A1_0 l1_0.length c1_0)] ∧ Aside0 (Below w.heap.size w w'))
    case atStart => exact ⟨(0), (by first|rfl|(simp only [i64_w, i32_w];done)|(simp only [i64_w, i32_w];rfl)|(simp;done)|(simp [*];done)), H', ⟨Nat.le_refl _⟩, ⟨kK⟩, ⟨kK⟩, ⟨eB⟩⟩
    case round =>
      clear H'
      try clear c1
      try clear c2
      try clear p2
      try clear c3
      try clear c3b0
      try clear c3b1
      try clear c3b2
      try clear c6
      try clear hcz7_0
      try clear hcz8_0
      try clear hfz7_0
      try clear hfz8_0
      obtain ⟨x5_1, rfl, HA, HK1, BK103, BK104, HB⟩ := hrel
      cases gk with
      | zero => exact absurd HA.out (by simp [changeforgeequal_Patch.l0])
      | succ k1 =>
        have H := HA.out;clear HA;simp only [changeforgeequal_Patch.l0] at H
        by_cases c9 : x5_1 < (l0_0.length : Int)
        · rw [if_pos c9] at H;have c9b0 : decide (x5_1 < (l0_0.length : Int)) = true := decide_eq_true c9;clear c9;have HC10 := Aside0.mk H;clear H;have hnb11 := NB103_104.out;have hnc11 := NB104_103.out;have hcz12_0 : wr.cell? ⟨gb103, 0, none⟩ = some (.slice A0_0 l0_0.length c0_0) := (blk_cell BK103.out 0).trans rfl;have hfz12_0 := blk_frozen BK103.out 0
          go_upto_region 6 with (fail)
          go_cut [64] (fun v64 wc => ∃ (kq : Nat) (x64_9 : Bool), v64 = .bool x64_9 ∧ Aside0 (changeforgeequal_Patch.j1 kq x5_1 x64_9 l0_0 l1_0 = some r) ∧ Aside0 (kq ≤ k1) ∧ Aside0 (wc.heap[gb103]? = some (.cells #[(.slice A0_0 l0_0.length c0_0)] 24 (0, 0))) ∧ Aside0 (wc.heap[gb104]? = some (.cells #[(.slice A1_0 l1_0.length c1_0)] 24 (0, 0))) ∧ Aside0 (Below w.heap.size w wc))
          case first =>
            have H := HC10.out;clear HC10
            by_cases c13 : 0 ≤ x5_1
            · rw [if_pos c13] at H;have c13b0 : decide (0 ≤ x5_1) = true := decide_eq_true c13;clear c13
              (first|rw [c13b0]|(simp only [i64_w, i32_w];rw [c13b0])|skip)
              by_cases c14 : x5_1 < (l1_0.length : Int)
              · rw [if_pos c14] at H;have c14b0 : decide (x5_1 < (l1_0.length : Int)) = true := decide_eq_true c14;clear c14
                by_cases c15 : ((rd_T47 l0_0 x5_1).f0) = ((rd_T47 l1_0 x5_1).f0)
                · rw [if_pos c15] at H;have c15b0 : (((rd_T47 l0_0 x5_1).f0) == ((rd_T47 l1_0 x5_1).f0)) = true := beq_iff_eq.mpr c15;have c15b1 : (((rd_T47 l0_0 x5_1).f0) != ((rd_T47 l1_0 x5_1).f0)) = false := bne_eq_false_iff_eq.mpr c15;clear c15;replace H := Option.bind_eq_some_iff.mp H;obtain ⟨t109, A160, H⟩ := H;replace H : (if t109 = true then ((changeforgeequal_Strings.f ((rd_T47 l0_0 x5_1).f2) ((rd_T47 l1_0 x5_1).f2)).bind fun t112 => (changeforgeequal_Patch.j1 k1 x5_1 (!t112) l0_0 l1_0)) else (changeforgeequal_Patch.j1 k1 x5_1 true l0_0 l1_0)) = some r := H;have A16 := Aside0.mk A160;clear A160
                  by_cases c17 : t109 = true
                  · subst c17;have H1 : ((changeforgeequal_Strings.f ((rd_T47 l0_0 x5_1).f2) ((rd_T47 l1_0 x5_1).f2)).bind fun t112 => (changeforgeequal_Patch.j1 k1 x5_1 (!t112) l0_0 l1_0)) = some r := (by rw [if_pos rfl] at H;exact H);clear H;have H := H1;clear H1;replace H := Option.bind_eq_some_iff.mp H;obtain ⟨t112, A180, H⟩ := H;replace H : (changeforgeequal_Patch.j1 k1 x5_1 (!t112) l0_0 l1_0) = some r := H;have A18 := Aside0.mk A180;clear A180;have H' := Aside0.mk H;clear H
                    try go_wp2
                    replace BK103 := Aside0.mk (blk_drew BK103.out);replace BK104 := Aside0.mk (blk_drew BK104.out);replace HB := Aside0.mk (below_drew1 HB.out);have p105 : 0 ≤ (x5_1 : Int) := dA;have q105 : x5_1 < (l0_0.length : Int) := dA;obtain ⟨ad105, A105_1, c105_1, A105_2, c105_2, e105, hx105_0, hx105_1, hx105_2, hl105_1, hi105_1, hl105_2, hi105_2⟩ := at_T47 HR0_0.out x5_1 p105 q105;have hw105_2 := hx105_2;have hw105_1 := hx105_1;have hw105_0 := hx105_0
                    cases e105
                    replace hx105_0 := (hX HB hx105_0:);replace hx105_1 := (hX HB hx105_1:);replace hx105_2 := (hX HB hx105_2:);have HR105_1 := Aside0.mk hi105_1;have HC105_1 := Aside0.mk hl105_1;clear hi105_1 hl105_1;have HR105_2 := Aside0.mk hi105_2;have HC105_2 := Aside0.mk hl105_2;clear hi105_2 hl105_2;replace p105 := eq_true p105;replace q105 := eq_true q105;have p106 : 0 ≤ (x5_1 : Int) := dA;have q106 : x5_1 < (l1_0.length : Int) := dA;obtain ⟨ad106, A106_1, c106_1, A106_2, c106_2, e106, hx106_0, hx106_1, hx106_2, hl106_1, hi106_1, hl106_2, hi106_2⟩ := at_T47 HR1_0.out x5_1 p106 q106;have hw106_2 := hx106_2;have hw106_1 := hx106_1;have hw106_0 := hx106_0
                    cases e106
                    replace hx106_0 := (hX HB hx106_0:);replace hx106_1 := (hX HB hx106_1:);replace hx106_2 := (hX HB hx106_2:);have HR106_1 := Aside0.mk hi106_1;have HC106_1 := Aside0.mk hl106_1;clear hi106_1 hl106_1;have HR106_2 := Aside0.mk hi106_2;have HC106_2 := Aside0.mk hl106_2;clear hi106_2 hl106_2;replace p106 := eq_true p106;replace q106 := eq_true q106;have p107 : 0 ≤ (x5_1 : Int) := dA;have q107 : x5_1 < (l0_0.length : Int) := dA;obtain ⟨ad107, A107_1, c107_1, A107_2, c107_2, e107, hx107_0, hx107_1, hx107_2, hl107_1, hi107_1, hl107_2, hi107_2⟩ := at_T47 HR0_0.out x5_1 p107 q107;have hw107_2 := hx107_2;have hw107_1 := hx107_1;have hw107_0 := hx107_0;obtain rfl : ad105 = ad107 := (by injection e107);replace hx107_0 := (hX HB hx107_0:);replace hx107_1 := (hX HB hx107_1:);replace hx107_2 := (hX HB hx107_2:);have HR107_1 := Aside0.mk hi107_1;have HC107_1 := Aside0.mk hl107_1;clear hi107_1 hl107_1;have HR107_2 := Aside0.mk hi107_2;have HC107_2 := Aside0.mk hl107_2;clear hi107_2 hl107_2;replace p107 := eq_true p107;replace q107 := eq_true q107;have ea_ := Option.some.inj (hx105_1.symm.trans hx107_1);injection ea_ with ea_ en_ ec_;subst ea_;subst ec_;clear en_;have ea_ := Option.some.inj (hx105_2.symm.trans hx107_2);injection ea_ with ea_ en_ ec_;subst ea_;subst ec_;clear en_;have p108 : 0 ≤ (x5_1 : Int) := dA;have q108 : x5_1 < (l1_0.length : Int) := dA;obtain ⟨ad108, A108_1, c108_1, A108_2, c108_2, e108, hx108_0, hx108_1, hx108_2, hl108_1, hi108_1, hl108_2, hi108_2⟩ := at_T47 HR1_0.out x5_1 p108 q108;have hw108_2 := hx108_2;have hw108_1 := hx108_1;have hw108_0 := hx108_0;obtain rfl : ad106 = ad108 := (by injection e108);replace hx108_0 := (hX HB hx108_0:);replace hx108_1 := (hX HB hx108_1:);replace hx108_2 := (hX HB hx108_2:);have HR108_1 := Aside0.mk hi108_1;have HC108_1 := Aside0.mk hl108_1;clear hi108_1 hl108_1;have HR108_2 := Aside0.mk hi108_2;have HC108_2 := Aside0.mk hl108_2;clear hi108_2 hl108_2;replace p108 := eq_true p108;replace q108 := eq_true q108;have ea_ := Option.some.inj (hx106_1.symm.trans hx108_1);injection ea_ with ea_ en_ ec_;subst ea_;subst ec_;clear en_;have ea_ := Option.some.inj (hx106_2.symm.trans hx108_2);injection ea_ with ea_ en_ ec_;subst ea_;subst ec_;clear en_;have p110 : 0 ≤ (x5_1 : Int) := dA;have q110 : x5_1 < (l0_0.length : Int) := dA;obtain ⟨ad110, A110_1, c110_1, A110_2, c110_2, e110, hx110_0, hx110_1, hx110_2, hl110_1, hi110_1, hl110_2, hi110_2⟩ := at_T47 HR0_0.out x5_1 p110 q110;have hw110_2 := hx110_2;have hw110_1 := hx110_1;have hw110_0 := hx110_0;obtain rfl : ad105 = ad110 := (by injection e110);replace hx110_0 := (hX HB hx110_0:);replace hx110_1 := (hX HB hx110_1:);replace hx110_2 := (hX HB hx110_2:);have HR110_1 := Aside0.mk hi110_1;have HC110_1 := Aside0.mk hl110_1;clear hi110_1 hl110_1;have HR110_2 := Aside0.mk hi110_2;have HC110_2 := Aside0.mk hl110_2;clear hi110_2 hl110_2;replace p110 := eq_true p110;replace q110 := eq_true q110;have ea_ := Option.some.inj (hx105_1.symm.trans hx110_1);injection ea_ with ea_ en_ ec_;subst ea_;subst ec_;clear en_;have ea_ := Option.some.inj (hx105_2.symm.trans hx110_2);injection ea_ with ea_ en_ ec_;subst ea_;subst ec_;clear en_;have p111 : 0 ≤ (x5_1 : Int) := dA;have q111 : x5_1 < (l1_0.length : Int) := dA;obtain ⟨ad111, A111_1, c111_1, A111_2, c111_2, e111, hx111_0, hx111_1, hx111_2, hl111_1, hi111_1, hl111_2, hi111_2⟩ := at_T47 HR1_0.out x5_1 p111 q111;have hw111_2 := hx111_2;have hw111_1 := hx111_1;have hw111_0 := hx111_0;obtain rfl : ad106 = ad111 := (by injection e111);replace hx111_0 := (hX HB hx111_0:);replace hx111_1 := (hX HB hx111_1:);replace hx111_2 := (hX HB hx111_2:);have HR111_1 := Aside0.mk hi111_1;have HC111_1 := Aside0.mk hl111_1;clear hi111_1 hl111_1;have HR111_2 := Aside0.mk hi111_2;have HC111_2 := Aside0.mk hl111_2;clear hi111_2 hl111_2;replace p111 := eq_true p111;replace q111 := eq_true q111;have ea_ := Option.some.inj (hx106_1.symm.trans hx111_1);injection ea_ with ea_ en_ ec_;subst ea_;subst ec_;clear en_;have ea_ := Option.some.inj (hx106_2.symm.trans hx111_2);injection ea_ with ea_ en_ ec_;subst ea_;subst ec_;clear en_;refine start_ (n := 45) (S := fun w' => w'.cell? ⟨gb103, 0, none⟩ = some (.slice (some ad105) l0_0.length c0_0) ∧ w'.cell? ⟨gb104, 0, none⟩ = some (.slice (some ad106) l1_0.length c1_0) ∧ w'.cell? (ad105.add ((x5_1).toNat * 3)) = some (.int .i64 ((rd_T47 l0_0 x5_1).f0)) ∧ w'.cell? ⟨(ad105.add ((x5_1).toNat * 3)).block, (ad105.add ((x5_1).toNat * 3)).off + 1, none⟩ = some (.slice A105_1 ((rd_T47 l0_0 x5_1).f1).length c105_1) ∧ w'.cell? ⟨(ad105.add ((x5_1).toNat * 3)).block, (ad105.add ((x5_1).toNat * 3)).off + 2, none⟩ = some (.slice A105_2 ((rd_T47 l0_0 x5_1).f2).length c105_2) ∧ w'.cell? (ad106.add ((x5_1).toNat * 3)) = some (.int .i64 ((rd_T47 l1_0 x5_1).f0)) ∧ w'.cell? ⟨(ad106.add ((x5_1).toNat * 3)).block, (ad106.add ((x5_1).toNat * 3)).off + 1, none⟩ = some (.slice A106_1 ((rd_T47 l1_0 x5_1).f1).length c106_1) ∧ w'.cell? ⟨(ad106.add ((x5_1).toNat * 3)).block, (ad106.add ((x5_1).toNat * 3)).off + 2, none⟩ = some (.slice A106_2 ((rd_T47 l1_0 x5_1).f2).length c106_2) ∧ w'.cell? (ad105.add ((x5_1).toNat * 3)) = some (.int .i64 ((rd_T47 l0_0 x5_1).f0)) ∧ w'.cell? ⟨(ad105.add ((x5_1).toNat * 3)).block, (ad105.add ((x5_1).toNat * 3)).off + 1, none⟩ = some (.slice A105_1 ((rd_T47 l0_0 x5_1).f1).length c105_1) ∧ w'.cell? ⟨(ad105.add ((x5_1).toNat * 3)).block, (ad105.add ((x5_1).toNat * 3)).off + 2, none⟩ = some (.slice A105_2 ((rd_T47 l0_0 x5_1).f2).length c105_2) ∧ w'.cell? (ad106.add ((x5_1).toNat * 3)) = some (.int .i64 ((rd_T47 l1_0 x5_1).f0)) ∧ w'.cell? ⟨(ad106.add ((x5_1).toNat * 3)).block, (ad106.add ((x5_1).toNat * 3)).off + 1, none⟩ = some (.slice A106_1 ((rd_T47 l1_0 x5_1).f1).length c106_1) ∧ w'.cell? ⟨(ad106.add ((x5_1).toNat * 3)).block, (ad106.add ((x5_1).toNat * 3)).off + 2, none⟩ = some (.slice A106_2 ((rd_T47 l1_0 x5_1).f2).length c106_2) ∧ w'.cell? (ad105.add ((x5_1).toNat * 3)) = some (.int .i64 ((rd_T47 l0_0 x5_1).f0)) ∧ w'.cell? ⟨(ad105.add ((x5_1).toNat * 3)).block, (ad105.add ((x5_1).toNat * 3)).off + 1, none⟩ = some (.slice A105_1 ((rd_T47 l0_0 x5_1).f1).length c105_1) ∧ w'.cell? ⟨(ad105.add ((x5_1).toNat * 3)).block, (ad105.add ((x5_1).toNat * 3)).off + 2, none⟩ = some (.slice A105_2 ((rd_T47 l0_0 x5_1).f2).length c105_2) ∧ w'.cell? (ad106.add ((x5_1).toNat * 3)) = some (.int .i64 ((rd_T47 l1_0 x5_1).f0)) ∧ w'.cell? ⟨(ad106.add ((x5_1).toNat * 3)).block, (ad106.add ((x5_1).toNat * 3)).off + 1, none⟩ = some (.slice A106_1 ((rd_T47 l1_0 x5_1).f1).length c106_1) ∧ w'.cell? ⟨(ad106.add ((x5_1).toNat * 3)).block, (ad106.add ((x5_1).toNat * 3)).off + 2, none⟩ = some (.slice A106_2 ((rd_T47 l1_0 x5_1).f2).length c106_2)) (ds := []) (mb 45 0) (by kernel_rfl) rfl (by kernel_rfl) ⟨(blk_cell BK103.out 0).trans rfl, (blk_cell BK104.out 0).trans rfl, (hX HB hw105_0:), (hX HB hw105_1:), (hX HB hw105_2:), (hX HB hw106_0:), (hX HB hw106_1:), (hX HB hw106_2:), (hX HB hw107_0:), (hX HB hw107_1:), (hX HB hw107_2:), (hX HB hw108_0:), (hX HB hw108_1:), (hX HB hw108_2:), (hX HB hw110_0:), (hX HB hw110_1:), (hX HB hw110_2:), (hX HB hw111_0:), (hX HB hw111_1:), (hX HB hw111_2:)⟩ (fun hHeld => ?_);refine with_tabW changeforgeequal_Patch.tab6 changeforgeequal_Patch.bits6 (fun HT_ HW_ => ?_);generalize wr.drew = w19 at BK103 BK104 HB HR105_1 HR105_2 HR106_1 HR106_2 HR107_1 HR107_2 HR108_1 HR108_2 HR110_1 HR110_2 HR111_1 HR111_2 hx105_0 hx105_1 hx105_2 hx106_0 hx106_1 hx106_2 hx107_0 hx107_1 hx107_2 hx108_0 hx108_1 hx108_2 hx110_0 hx110_1 hx110_2 hx111_0 hx111_1 hx111_2 hHeld ⊢;refine pA 0 20 (mb 45 1) HT_ rfl rfl ?_;refine pA 2 22 (mb 45 5) HT_ rfl rfl ?_;refine pA 6 26 (mb 45 69) HT_ rfl rfl ?_;refine pA 8 28 (mb 45 325) HT_ rfl rfl ?_;refine tA 1 21 (mb 45 327) HT_ HW_ hHeld rfl rfl (by rintro w' ⟨s0, s1, s2, s3, s4, s5, s6, s7, s8, s9, s10, s11, s12, s13, s14, s15, s16, s17, s18, s19⟩;go_simp;with_reducible rfl) ?_;refine pA 3 23 (mb 45 335) HT_ rfl rfl ?_;refine pA 4 24 (mb 45 351) HT_ rfl rfl ?_;refine tA 5 25 (mb 45 383) HT_ HW_ hHeld rfl rfl (by rintro w' ⟨s0, s1, s2, s3, s4, s5, s6, s7, s8, s9, s10, s11, s12, s13, s14, s15, s16, s17, s18, s19⟩;go_simp;with_reducible rfl) ?_;refine tA 7 27 (mb 45 511) HT_ HW_ hHeld rfl rfl (by rintro w' ⟨s0, s1, s2, s3, s4, s5, s6, s7, s8, s9, s10, s11, s12, s13, s14, s15, s16, s17, s18, s19⟩;go_simp;with_reducible rfl) ?_;refine pA 9 29 (mb 45 1023) HT_ rfl rfl ?_;refine pA 10 30 (mb 45 2047) HT_ rfl rfl ?_;refine tA 11 31 (mb 45 4095) HT_ HW_ hHeld rfl rfl (by rintro w' ⟨s0, s1, s2, s3, s4, s5, s6, s7, s8, s9, s10, s11, s12, s13, s14, s15, s16, s17, s18, s19⟩;go_simp;with_reducible rfl) ?_;refine pA 12 32 (mb 45 8191) HT_ rfl rfl ?_;refine pA 13 33 (mb 45 16383) HT_ rfl rfl ?_;refine pA 14 34 (mb 45 32767) HT_ rfl rfl ?_;refine pA 16 36 (mb 45 98303) HT_ rfl rfl ?_;refine pA 20 40 (mb 45 1146879) HT_ rfl rfl ?_;refine pA 22 42 (mb 45 5341183) HT_ rfl rfl ?_;refine tA 15 35 (mb 45 5373951) HT_ HW_ hHeld rfl rfl (by rintro w' ⟨s0, s1, s2, s3, s4, s5, s6, s7, s8, s9, s10, s11, s12, s13, s14, s15, s16, s17, s18, s19⟩;go_simp;with_reducible rfl) ?_;refine pA 17 37 (mb 45 5505023) HT_ rfl rfl ?_;refine pA 18 38 (mb 45 5767167) HT_ rfl rfl ?_;refine tA 19 39 (mb 45 6291455) HT_ HW_ hHeld rfl rfl (by rintro w' ⟨s0, s1, s2, s3, s4, s5, s6, s7, s8, s9, s10, s11, s12, s13, s14, s15, s16, s17, s18, s19⟩;go_simp;with_reducible rfl) ?_;refine tA 21 41 (mb 45 8388607) HT_ HW_ hHeld rfl rfl (by rintro w' ⟨s0, s1, s2, s3, s4, s5, s6, s7, s8, s9, s10, s11, s12, s13, s14, s15, s16, s17, s18, s19⟩;go_simp;with_reducible rfl) ?_;refine pA 23 43 (mb 45 16777215) HT_ rfl rfl ?_;refine pA 24 44 (mb 45 33554431) HT_ rfl rfl ?_;refine tA 25 45 (mb 45 67108863) HT_ HW_ hHeld rfl rfl (by rintro w' ⟨s0, s1, s2, s3, s4, s5, s6, s7, s8, s9, s10, s11, s12, s13, s14, s15, s16, s17, s18, s19⟩;go_simp;with_reducible rfl) ?_;refine one_ (i := 26) (N := some 46) (mb 45 134217727) rfl rfl (one_of HT_.out (by kernel_rfl)) (by decide) (fun K hK => ?_);refine goes_ Try.func21 (by kernel_rfl) rfl #[.slice A105_1 ((rd_T47 l0_0 x5_1).f1).length c105_1, .slice A106_1 ((rd_T47 l1_0 x5_1).f1).length c106_1] (by rfl) rfl rfl mA ?_
                    with_reducible refine (changeforgeequal_Strings.calls _ _ ((rd_T47 l0_0 x5_1).f1) _ _ ((rd_T47 l1_0 x5_1).f1) true _ ?side1 ?side2 ?side3 ?side4 A16.out).mono ?_
                    (case side1 => exact cBe HR107_1);(case side2 => exact HC107_1.out);(case side3 => exact cBe HR108_1);(case side4 => exact HC108_1.out)
                    rintro e w' ⟨rfl, ⟨nd, rfl⟩⟩
                    refine ⟨_, rfl, ?_⟩;refine hK.out _ _ ⟨(blk_cell BK103.out 0).trans rfl, (blk_cell BK104.out 0).trans rfl, (hX HB hw105_0:), (hX HB hw105_1:), (hX HB hw105_2:), (hX HB hw106_0:), (hX HB hw106_1:), (hX HB hw106_2:), (hX HB hw107_0:), (hX HB hw107_1:), (hX HB hw107_2:), (hX HB hw108_0:), (hX HB hw108_1:), (hX HB hw108_2:), (hX HB hw110_0:), (hX HB hw110_1:), (hX HB hw110_2:), (hX HB hw111_0:), (hX HB hw111_1:), (hX HB hw111_2:)⟩ (fun hHeld => ?_);clear hK K;refine nmA (some 46) ?_;refine pA 27 47 (mb 45 268435455) HT_ rfl rfl ?_;refine pA 28 48 (mb 45 536870911) HT_ rfl rfl ?_;refine pA 29 49 (mb 45 1073741823) HT_ rfl rfl ?_;refine pA 30 50 (mb 45 2147483647) HT_ rfl rfl ?_;refine pA 32 52 (mb 45 6442450943) HT_ rfl rfl ?_;refine pA 36 56 (mb 45 75161927679) HT_ rfl rfl ?_;refine pA 38 58 (mb 45 350039834623) HT_ rfl rfl ?_;refine tA 31 51 (mb 45 352187318271) HT_ HW_ hHeld rfl rfl (by rintro w' ⟨s0, s1, s2, s3, s4, s5, s6, s7, s8, s9, s10, s11, s12, s13, s14, s15, s16, s17, s18, s19⟩;go_simp;with_reducible rfl) ?_;refine pA 33 53 (mb 45 360777252863) HT_ rfl rfl ?_;refine pA 34 54 (mb 45 377957122047) HT_ rfl rfl ?_;refine tA 35 55 (mb 45 412316860415) HT_ HW_ hHeld rfl rfl (by rintro w' ⟨s0, s1, s2, s3, s4, s5, s6, s7, s8, s9, s10, s11, s12, s13, s14, s15, s16, s17, s18, s19⟩;go_simp;with_reducible rfl) ?_;refine tA 37 57 (mb 45 549755813887) HT_ HW_ hHeld rfl rfl (by rintro w' ⟨s0, s1, s2, s3, s4, s5, s6, s7, s8, s9, s10, s11, s12, s13, s14, s15, s16, s17, s18, s19⟩;go_simp;with_reducible rfl) ?_;refine pA 39 59 (mb 45 1099511627775) HT_ rfl rfl ?_;refine pA 40 60 (mb 45 2199023255551) HT_ rfl rfl ?_;refine tA 41 61 (mb 45 4398046511103) HT_ HW_ hHeld rfl rfl (by rintro w' ⟨s0, s1, s2, s3, s4, s5, s6, s7, s8, s9, s10, s11, s12, s13, s14, s15, s16, s17, s18, s19⟩;go_simp;with_reducible rfl) ?_;refine one_ (i := 42) (N := some 62) (mb 45 8796093022207) rfl rfl (one_of HT_.out (by kernel_rfl)) (by decide) (fun K hK => ?_);refine goes_ Try.func21 (by kernel_rfl) rfl #[.slice A105_2 ((rd_T47 l0_0 x5_1).f2).length c105_2, .slice A106_2 ((rd_T47 l1_0 x5_1).f2).length c106_2] (by rfl) rfl rfl mA ?_
                    with_reducible refine (changeforgeequal_Strings.calls _ _ ((rd_T47 l0_0 x5_1).f2) _ _ ((rd_T47 l1_0 x5_1).f2) t112 _ ?side1 ?side2 ?side3 ?side4 A18.out).mono ?_
                    (case side1 => repeat (first|exact (Kd.C_below HR110_2.out eB)|(with_reducible refine Kd.C_alloc ?_ _)|(with_reducible refine Kd.C_drewN ?_ _)|(with_reducible refine Kd.C_drew ?_)));(case side2 => exact HC110_2.out);(case side3 => repeat (first|exact (Kd.C_below HR111_2.out eB)|(with_reducible refine Kd.C_alloc ?_ _)|(with_reducible refine Kd.C_drewN ?_ _)|(with_reducible refine Kd.C_drew ?_)));(case side4 => exact HC111_2.out)
                    rintro e w' ⟨rfl, ⟨nd, rfl⟩⟩
                    refine ⟨_, rfl, ?_⟩;refine hK.out _ _ ⟨(blk_cell BK103.out 0).trans rfl, (blk_cell BK104.out 0).trans rfl, (hX HB hw105_0:), (hX HB hw105_1:), (hX HB hw105_2:), (hX HB hw106_0:), (hX HB hw106_1:), (hX HB hw106_2:), (hX HB hw107_0:), (hX HB hw107_1:), (hX HB hw107_2:), (hX HB hw108_0:), (hX HB hw108_1:), (hX HB hw108_2:), (hX HB hw110_0:), (hX HB hw110_1:), (hX HB hw110_2:), (hX HB hw111_0:), (hX HB hw111_1:), (hX HB hw111_2:)⟩ (fun hHeld => ?_);clear hK K;refine nmA (some 62) ?_;refine pA 43 63 (mb 45 17592186044415) HT_ rfl rfl ?_;refine pA 44 64 (mb 45 35184372088831) HT_ rfl rfl ?_;refine done_ (done_of HT_.out (by kernel_rfl)) ?_
                    try go_wp2
                    go_meet
                    case rel => exact ⟨_, (!t112), (by first|rfl|(simp only [i64_w, i32_w];done)|(simp only [i64_w, i32_w];rfl)|(simp;done)|(simp [*];done)), H', ⟨by have := HK1.out;first|omega|exact Nat.le_refl _⟩, ⟨kK⟩, ⟨kK⟩, ⟨eB⟩⟩
                  · replace c17 := Bool.eq_false_iff.mpr c17;subst c17;have H1 : (changeforgeequal_Patch.j1 k1 x5_1 true l0_0 l1_0) = some r := (by rw [if_neg (show ¬ (false = true) by decide)] at H;exact H);clear H;have H := H1;clear H1;have H' := Aside0.mk H;clear H
                    try go_wp2
                    replace BK103 := Aside0.mk (blk_drew BK103.out);replace BK104 := Aside0.mk (blk_drew BK104.out);replace HB := Aside0.mk (below_drew1 HB.out);have p105 : 0 ≤ (x5_1 : Int) := dA;have q105 : x5_1 < (l0_0.length : Int) := dA;obtain ⟨ad105, A105_1, c105_1, A105_2, c105_2, e105, hx105_0, hx105_1, hx105_2, hl105_1, hi105_1, hl105_2, hi105_2⟩ := at_T47 HR0_0.out x5_1 p105 q105;have hw105_2 := hx105_2;have hw105_1 := hx105_1;have hw105_0 := hx105_0
                    cases e105
                    replace hx105_0 := (hX HB hx105_0:);replace hx105_1 := (hX HB hx105_1:);replace hx105_2 := (hX HB hx105_2:);have HR105_1 := Aside0.mk hi105_1;have HC105_1 := Aside0.mk hl105_1;clear hi105_1 hl105_1;have HR105_2 := Aside0.mk hi105_2;have HC105_2 := Aside0.mk hl105_2;clear hi105_2 hl105_2;replace p105 := eq_true p105;replace q105 := eq_true q105;have p106 : 0 ≤ (x5_1 : Int) := dA;have q106 : x5_1 < (l1_0.length : Int) := dA;obtain ⟨ad106, A106_1, c106_1, A106_2, c106_2, e106, hx106_0, hx106_1, hx106_2, hl106_1, hi106_1, hl106_2, hi106_2⟩ := at_T47 HR1_0.out x5_1 p106 q106;have hw106_2 := hx106_2;have hw106_1 := hx106_1;have hw106_0 := hx106_0
                    cases e106
                    replace hx106_0 := (hX HB hx106_0:);replace hx106_1 := (hX HB hx106_1:);replace hx106_2 := (hX HB hx106_2:);have HR106_1 := Aside0.mk hi106_1;have HC106_1 := Aside0.mk hl106_1;clear hi106_1 hl106_1;have HR106_2 := Aside0.mk hi106_2;have HC106_2 := Aside0.mk hl106_2;clear hi106_2 hl106_2;replace p106 := eq_true p106;replace q106 := eq_true q106;have p107 : 0 ≤ (x5_1 : Int) := dA;have q107 : x5_1 < (l0_0.length : Int) := dA;obtain ⟨ad107, A107_1, c107_1, A107_2, c107_2, e107, hx107_0, hx107_1, hx107_2, hl107_1, hi107_1, hl107_2, hi107_2⟩ := at_T47 HR0_0.out x5_1 p107 q107;have hw107_2 := hx107_2;have hw107_1 := hx107_1;have hw107_0 := hx107_0;obtain rfl : ad105 = ad107 := (by injection e107);replace hx107_0 := (hX HB hx107_0:);replace hx107_1 := (hX HB hx107_1:);replace hx107_2 := (hX HB hx107_2:);have HR107_1 := Aside0.mk hi107_1;have HC107_1 := Aside0.mk hl107_1;clear hi107_1 hl107_1;have HR107_2 := Aside0.mk hi107_2;have HC107_2 := Aside0.mk hl107_2;clear hi107_2 hl107_2;replace p107 := eq_true p107;replace q107 := eq_true q107;have ea_ := Option.some.inj (hx105_1.symm.trans hx107_1);injection ea_ with ea_ en_ ec_;subst ea_;subst ec_;clear en_;have ea_ := Option.some.inj (hx105_2.symm.trans hx107_2);injection ea_ with ea_ en_ ec_;subst ea_;subst ec_;clear en_;have p108 : 0 ≤ (x5_1 : Int) := dA;have q108 : x5_1 < (l1_0.length : Int) := dA;obtain ⟨ad108, A108_1, c108_1, A108_2, c108_2, e108, hx108_0, hx108_1, hx108_2, hl108_1, hi108_1, hl108_2, hi108_2⟩ := at_T47 HR1_0.out x5_1 p108 q108;have hw108_2 := hx108_2;have hw108_1 := hx108_1;have hw108_0 := hx108_0;obtain rfl : ad106 = ad108 := (by injection e108);replace hx108_0 := (hX HB hx108_0:);replace hx108_1 := (hX HB hx108_1:);replace hx108_2 := (hX HB hx108_2:);have HR108_1 := Aside0.mk hi108_1;have HC108_1 := Aside0.mk hl108_1;clear hi108_1 hl108_1;have HR108_2 := Aside0.mk hi108_2;have HC108_2 := Aside0.mk hl108_2;clear hi108_2 hl108_2;replace p108 := eq_true p108;replace q108 := eq_true q108;have ea_ := Option.some.inj (hx106_1.symm.trans hx108_1);injection ea_ with ea_ en_ ec_;subst ea_;subst ec_;clear en_;have ea_ := Option.some.inj (hx106_2.symm.trans hx108_2);injection ea_ with ea_ en_ ec_;subst ea_;subst ec_;clear en_;refine start_ (n := 45) (S := fun w' => w'.cell? ⟨gb103, 0, none⟩ = some (.slice (some ad105) l0_0.length c0_0) ∧ w'.cell? ⟨gb104, 0, none⟩ = some (.slice (some ad106) l1_0.length c1_0) ∧ w'.cell? (ad105.add ((x5_1).toNat * 3)) = some (.int .i64 ((rd_T47 l0_0 x5_1).f0)) ∧ w'.cell? ⟨(ad105.add ((x5_1).toNat * 3)).block, (ad105.add ((x5_1).toNat * 3)).off + 1, none⟩ = some (.slice A105_1 ((rd_T47 l0_0 x5_1).f1).length c105_1) ∧ w'.cell? ⟨(ad105.add ((x5_1).toNat * 3)).block, (ad105.add ((x5_1).toNat * 3)).off + 2, none⟩ = some (.slice A105_2 ((rd_T47 l0_0 x5_1).f2).length c105_2) ∧ w'.cell? (ad106.add ((x5_1).toNat * 3)) = some (.int .i64 ((rd_T47 l1_0 x5_1).f0)) ∧ w'.cell? ⟨(ad106.add ((x5_1).toNat * 3)).block, (ad106.add ((x5_1).toNat * 3)).off + 1, none⟩ = some (.slice A106_1 ((rd_T47 l1_0 x5_1).f1).length c106_1) ∧ w'.cell? ⟨(ad106.add ((x5_1).toNat * 3)).block, (ad106.add ((x5_1).toNat * 3)).off + 2, none⟩ = some (.slice A106_2 ((rd_T47 l1_0 x5_1).f2).length c106_2) ∧ w'.cell? (ad105.add ((x5_1).toNat * 3)) = some (.int .i64 ((rd_T47 l0_0 x5_1).f0)) ∧ w'.cell? ⟨(ad105.add ((x5_1).toNat * 3)).block, (ad105.add ((x5_1).toNat * 3)).off + 1, none⟩ = some (.slice A105_1 ((rd_T47 l0_0 x5_1).f1).length c105_1) ∧ w'.cell? ⟨(ad105.add ((x5_1).toNat * 3)).block, (ad105.add ((x5_1).toNat * 3)).off + 2, none⟩ = some (.slice A105_2 ((rd_T47 l0_0 x5_1).f2).length c105_2) ∧ w'.cell? (ad106.add ((x5_1).toNat * 3)) = some (.int .i64 ((rd_T47 l1_0 x5_1).f0)) ∧ w'.cell? ⟨(ad106.add ((x5_1).toNat * 3)).block, (ad106.add ((x5_1).toNat * 3)).off + 1, none⟩ = some (.slice A106_1 ((rd_T47 l1_0 x5_1).f1).length c106_1) ∧ w'.cell? ⟨(ad106.add ((x5_1).toNat * 3)).block, (ad106.add ((x5_1).toNat * 3)).off + 2, none⟩ = some (.slice A106_2 ((rd_T47 l1_0 x5_1).f2).length c106_2)) (ds := []) (mb 45 0) (by kernel_rfl) rfl (by kernel_rfl) ⟨(blk_cell BK103.out 0).trans rfl, (blk_cell BK104.out 0).trans rfl, (hX HB hw105_0:), (hX HB hw105_1:), (hX HB hw105_2:), (hX HB hw106_0:), (hX HB hw106_1:), (hX HB hw106_2:), (hX HB hw107_0:), (hX HB hw107_1:), (hX HB hw107_2:), (hX HB hw108_0:), (hX HB hw108_1:), (hX HB hw108_2:)⟩ (fun hHeld => ?_);refine with_tabW changeforgeequal_Patch.tab6 changeforgeequal_Patch.bits6 (fun HT_ HW_ => ?_);generalize wr.drew = w20 at BK103 BK104 HB HR105_1 HR105_2 HR106_1 HR106_2 HR107_1 HR107_2 HR108_1 HR108_2 hx105_0 hx105_1 hx105_2 hx106_0 hx106_1 hx106_2 hx107_0 hx107_1 hx107_2 hx108_0 hx108_1 hx108_2 hHeld ⊢;refine pA 0 20 (mb 45 1) HT_ rfl rfl ?_;refine pA 2 22 (mb 45 5) HT_ rfl rfl ?_;refine pA 6 26 (mb 45 69) HT_ rfl rfl ?_;refine pA 8 28 (mb 45 325) HT_ rfl rfl ?_;refine tA 1 21 (mb 45 327) HT_ HW_ hHeld rfl rfl (by rintro w' ⟨s0, s1, s2, s3, s4, s5, s6, s7, s8, s9, s10, s11, s12, s13⟩;go_simp;with_reducible rfl) ?_;refine pA 3 23 (mb 45 335) HT_ rfl rfl ?_;refine pA 4 24 (mb 45 351) HT_ rfl rfl ?_;refine tA 5 25 (mb 45 383) HT_ HW_ hHeld rfl rfl (by rintro w' ⟨s0, s1, s2, s3, s4, s5, s6, s7, s8, s9, s10, s11, s12, s13⟩;go_simp;with_reducible rfl) ?_;refine tA 7 27 (mb 45 511) HT_ HW_ hHeld rfl rfl (by rintro w' ⟨s0, s1, s2, s3, s4, s5, s6, s7, s8, s9, s10, s11, s12, s13⟩;go_simp;with_reducible rfl) ?_;refine pA 9 29 (mb 45 1023) HT_ rfl rfl ?_;refine pA 10 30 (mb 45 2047) HT_ rfl rfl ?_;refine tA 11 31 (mb 45 4095) HT_ HW_ hHeld rfl rfl (by rintro w' ⟨s0, s1, s2, s3, s4, s5, s6, s7, s8, s9, s10, s11, s12, s13⟩;go_simp;with_reducible rfl) ?_;refine pA 12 32 (mb 45 8191) HT_ rfl rfl ?_;refine pA 13 33 (mb 45 16383) HT_ rfl rfl ?_;refine pA 14 34 (mb 45 32767) HT_ rfl rfl ?_;refine pA 16 36 (mb 45 98303) HT_ rfl rfl ?_;refine pA 20 40 (mb 45 1146879) HT_ rfl rfl ?_;refine pA 22 42 (mb 45 5341183) HT_ rfl rfl ?_;refine tA 15 35 (mb 45 5373951) HT_ HW_ hHeld rfl rfl (by rintro w' ⟨s0, s1, s2, s3, s4, s5, s6, s7, s8, s9, s10, s11, s12, s13⟩;go_simp;with_reducible rfl) ?_;refine pA 17 37 (mb 45 5505023) HT_ rfl rfl ?_;refine pA 18 38 (mb 45 5767167) HT_ rfl rfl ?_;refine tA 19 39 (mb 45 6291455) HT_ HW_ hHeld rfl rfl (by rintro w' ⟨s0, s1, s2, s3, s4, s5, s6, s7, s8, s9, s10, s11, s12, s13⟩;go_simp;with_reducible rfl) ?_;refine tA 21 41 (mb 45 8388607) HT_ HW_ hHeld rfl rfl (by rintro w' ⟨s0, s1, s2, s3, s4, s5, s6, s7, s8, s9, s10, s11, s12, s13⟩;go_simp;with_reducible rfl) ?_;refine pA 23 43 (mb 45 16777215) HT_ rfl rfl ?_;refine pA 24 44 (mb 45 33554431) HT_ rfl rfl ?_;refine tA 25 45 (mb 45 67108863) HT_ HW_ hHeld rfl rfl (by rintro w' ⟨s0, s1, s2, s3, s4, s5, s6, s7, s8, s9, s10, s11, s12, s13⟩;go_simp;with_reducible rfl) ?_;refine one_ (i := 26) (N := some 46) (mb 45 134217727) rfl rfl (one_of HT_.out (by kernel_rfl)) (by decide) (fun K hK => ?_);refine goes_ Try.func21 (by kernel_rfl) rfl #[.slice A105_1 ((rd_T47 l0_0 x5_1).f1).length c105_1, .slice A106_1 ((rd_T47 l1_0 x5_1).f1).length c106_1] (by rfl) rfl rfl mA ?_
                    with_reducible refine (changeforgeequal_Strings.calls _ _ ((rd_T47 l0_0 x5_1).f1) _ _ ((rd_T47 l1_0 x5_1).f1) false _ ?side1 ?side2 ?side3 ?side4 A16.out).mono ?_
                    (case side1 => exact cBe HR107_1);(case side2 => exact HC107_1.out);(case side3 => exact cBe HR108_1);(case side4 => exact HC108_1.out)
                    rintro e w' ⟨rfl, ⟨nd, rfl⟩⟩
                    refine ⟨_, rfl, ?_⟩;refine hK.out _ _ ⟨(blk_cell BK103.out 0).trans rfl, (blk_cell BK104.out 0).trans rfl, (hX HB hw105_0:), (hX HB hw105_1:), (hX HB hw105_2:), (hX HB hw106_0:), (hX HB hw106_1:), (hX HB hw106_2:), (hX HB hw107_0:), (hX HB hw107_1:), (hX HB hw107_2:), (hX HB hw108_0:), (hX HB hw108_1:), (hX HB hw108_2:)⟩ (fun hHeld => ?_);clear hK K;refine nmA (some 46) ?_;refine pA 27 47 (mb 45 268435455) HT_ rfl rfl ?_;refine pA 28 48 (mb 45 536870911) HT_ rfl rfl ?_;refine pA 29 49 (mb 45 1073741823) HT_ rfl rfl ?_;refine pU 30 50 (mb 45 2147483647) HT_ rfl rfl ?_;refine pU 31 51 (mb 45 4294967295) HT_ rfl rfl ?_;refine pU 32 52 (mb 45 8589934591) HT_ rfl rfl ?_;refine pU 33 53 (mb 45 17179869183) HT_ rfl rfl ?_;refine pU 34 54 (mb 45 34359738367) HT_ rfl rfl ?_;refine pU 35 55 (mb 45 68719476735) HT_ rfl rfl ?_;refine pU 36 56 (mb 45 137438953471) HT_ rfl rfl ?_;refine pU 37 57 (mb 45 274877906943) HT_ rfl rfl ?_;refine pU 38 58 (mb 45 549755813887) HT_ rfl rfl ?_;refine pU 39 59 (mb 45 1099511627775) HT_ rfl rfl ?_;refine pU 40 60 (mb 45 2199023255551) HT_ rfl rfl ?_;refine pU 41 61 (mb 45 4398046511103) HT_ rfl rfl ?_;refine pU 42 62 (mb 45 8796093022207) HT_ rfl rfl ?_;refine pU 43 63 (mb 45 17592186044415) HT_ rfl rfl ?_;refine pA 44 64 (mb 45 35184372088831) HT_ rfl rfl ?_;refine done_ (done_of HT_.out (by kernel_rfl)) ?_
                    try go_wp2
                    go_meet
                    case rel => exact ⟨_, (true), (by first|rfl|(simp only [i64_w, i32_w];done)|(simp only [i64_w, i32_w];rfl)|(simp;done)|(simp [*];done)), H', ⟨by have := HK1.out;first|omega|exact Nat.le_refl _⟩, ⟨kK⟩, ⟨kK⟩, ⟨eB⟩⟩
                · rw [if_neg c15] at H;have c15b0 : (((rd_T47 l0_0 x5_1).f0) == ((rd_T47 l1_0 x5_1).f0)) = false := beq_eq_false_iff_ne.mpr c15;have c15b1 : (((rd_T47 l0_0 x5_1).f0) != ((rd_T47 l1_0 x5_1).f0)) = true := bne_iff_ne.mpr c15;have H' := Aside0.mk H;clear H
                  try go_wp2
                  replace BK103 := Aside0.mk (blk_drew BK103.out);replace BK104 := Aside0.mk (blk_drew BK104.out);replace HB := Aside0.mk (below_drew1 HB.out);have p105 : 0 ≤ (x5_1 : Int) := dA;have q105 : x5_1 < (l0_0.length : Int) := dA;obtain ⟨ad105, A105_1, c105_1, A105_2, c105_2, e105, hx105_0, hx105_1, hx105_2, hl105_1, hi105_1, hl105_2, hi105_2⟩ := at_T47 HR0_0.out x5_1 p105 q105;have hw105_2 := hx105_2;have hw105_1 := hx105_1;have hw105_0 := hx105_0
                  cases e105
                  replace hx105_0 := (hX HB hx105_0:);replace hx105_1 := (hX HB hx105_1:);replace hx105_2 := (hX HB hx105_2:);have HR105_1 := Aside0.mk hi105_1;have HC105_1 := Aside0.mk hl105_1;clear hi105_1 hl105_1;have HR105_2 := Aside0.mk hi105_2;have HC105_2 := Aside0.mk hl105_2;clear hi105_2 hl105_2;replace p105 := eq_true p105;replace q105 := eq_true q105;have p106 : 0 ≤ (x5_1 : Int) := dA;have q106 : x5_1 < (l1_0.length : Int) := dA;obtain ⟨ad106, A106_1, c106_1, A106_2, c106_2, e106, hx106_0, hx106_1, hx106_2, hl106_1, hi106_1, hl106_2, hi106_2⟩ := at_T47 HR1_0.out x5_1 p106 q106;have hw106_2 := hx106_2;have hw106_1 := hx106_1;have hw106_0 := hx106_0
                  cases e106
                  replace hx106_0 := (hX HB hx106_0:);replace hx106_1 := (hX HB hx106_1:);replace hx106_2 := (hX HB hx106_2:);have HR106_1 := Aside0.mk hi106_1;have HC106_1 := Aside0.mk hl106_1;clear hi106_1 hl106_1;have HR106_2 := Aside0.mk hi106_2;have HC106_2 := Aside0.mk hl106_2;clear hi106_2 hl106_2;replace p106 := eq_true p106;replace q106 := eq_true q106;refine start_ (n := 45) (S := fun w' => w'.cell? ⟨gb103, 0, none⟩ = some (.slice (some ad105) l0_0.length c0_0) ∧ w'.cell? ⟨gb104, 0, none⟩ = some (.slice (some ad106) l1_0.length c1_0) ∧ w'.cell? (ad105.add ((x5_1).toNat * 3)) = some (.int .i64 ((rd_T47 l0_0 x5_1).f0)) ∧ w'.cell? ⟨(ad105.add ((x5_1).toNat * 3)).block, (ad105.add ((x5_1).toNat * 3)).off + 1, none⟩ = some (.slice A105_1 ((rd_T47 l0_0 x5_1).f1).length c105_1) ∧ w'.cell? ⟨(ad105.add ((x5_1).toNat * 3)).block, (ad105.add ((x5_1).toNat * 3)).off + 2, none⟩ = some (.slice A105_2 ((rd_T47 l0_0 x5_1).f2).length c105_2) ∧ w'.cell? (ad106.add ((x5_1).toNat * 3)) = some (.int .i64 ((rd_T47 l1_0 x5_1).f0)) ∧ w'.cell? ⟨(ad106.add ((x5_1).toNat * 3)).block, (ad106.add ((x5_1).toNat * 3)).off + 1, none⟩ = some (.slice A106_1 ((rd_T47 l1_0 x5_1).f1).length c106_1) ∧ w'.cell? ⟨(ad106.add ((x5_1).toNat * 3)).block, (ad106.add ((x5_1).toNat * 3)).off + 2, none⟩ = some (.slice A106_2 ((rd_T47 l1_0 x5_1).f2).length c106_2)) (ds := []) (mb 45 0) (by kernel_rfl) rfl (by kernel_rfl) ⟨(blk_cell BK103.out 0).trans rfl, (blk_cell BK104.out 0).trans rfl, (hX HB hw105_0:), (hX HB hw105_1:), (hX HB hw105_2:), (hX HB hw106_0:), (hX HB hw106_1:), (hX HB hw106_2:)⟩ (fun hHeld => ?_);refine with_tabW changeforgeequal_Patch.tab6 changeforgeequal_Patch.bits6 (fun HT_ HW_ => ?_);generalize wr.drew = w21 at BK103 BK104 HB HR105_1 HR105_2 HR106_1 HR106_2 hx105_0 hx105_1 hx105_2 hx106_0 hx106_1 hx106_2 hHeld ⊢;refine pA 0 20 (mb 45 1) HT_ rfl rfl ?_;refine pA 2 22 (mb 45 5) HT_ rfl rfl ?_;refine pA 6 26 (mb 45 69) HT_ rfl rfl ?_;refine pA 8 28 (mb 45 325) HT_ rfl rfl ?_;refine tA 1 21 (mb 45 327) HT_ HW_ hHeld rfl rfl (by rintro w' ⟨s0, s1, s2, s3, s4, s5, s6, s7⟩;go_simp;with_reducible rfl) ?_;refine pA 3 23 (mb 45 335) HT_ rfl rfl ?_;refine pA 4 24 (mb 45 351) HT_ rfl rfl ?_;refine tA 5 25 (mb 45 383) HT_ HW_ hHeld rfl rfl (by rintro w' ⟨s0, s1, s2, s3, s4, s5, s6, s7⟩;go_simp;with_reducible rfl) ?_;refine tA 7 27 (mb 45 511) HT_ HW_ hHeld rfl rfl (by rintro w' ⟨s0, s1, s2, s3, s4, s5, s6, s7⟩;go_simp;with_reducible rfl) ?_;refine pA 9 29 (mb 45 1023) HT_ rfl rfl ?_;refine pA 10 30 (mb 45 2047) HT_ rfl rfl ?_;refine tA 11 31 (mb 45 4095) HT_ HW_ hHeld rfl rfl (by rintro w' ⟨s0, s1, s2, s3, s4, s5, s6, s7⟩;go_simp;with_reducible rfl) ?_;refine pA 12 32 (mb 45 8191) HT_ rfl rfl ?_;refine pA 13 33 (mb 45 16383) HT_ rfl rfl ?_;refine pU 14 34 (mb 45 32767) HT_ rfl rfl ?_;refine pU 15 35 (mb 45 65535) HT_ rfl rfl ?_;refine pU 16 36 (mb 45 131071) HT_ rfl rfl ?_;refine pU 17 37 (mb 45 262143) HT_ rfl rfl ?_;refine pU 18 38 (mb 45 524287) HT_ rfl rfl ?_;refine pU 19 39 (mb 45 1048575) HT_ rfl rfl ?_;refine pU 20 40 (mb 45 2097151) HT_ rfl rfl ?_;refine pU 21 41 (mb 45 4194303) HT_ rfl rfl ?_;refine pU 22 42 (mb 45 8388607) HT_ rfl rfl ?_;refine pU 23 43 (mb 45 16777215) HT_ rfl rfl ?_;refine pU 24 44 (mb 45 33554431) HT_ rfl rfl ?_;refine pU 25 45 (mb 45 67108863) HT_ rfl rfl ?_;refine pU 26 46 (mb 45 134217727) HT_ rfl rfl ?_;refine pU 27 47 (mb 45 268435455) HT_ rfl rfl ?_;refine pA 28 48 (mb 45 536870911) HT_ rfl rfl ?_;refine pA 29 49 (mb 45 1073741823) HT_ rfl rfl ?_;refine pU 30 50 (mb 45 2147483647) HT_ rfl rfl ?_;refine pU 31 51 (mb 45 4294967295) HT_ rfl rfl ?_;refine pU 32 52 (mb 45 8589934591) HT_ rfl rfl ?_;refine pU 33 53 (mb 45 17179869183) HT_ rfl rfl ?_;refine pU 34 54 (mb 45 34359738367) HT_ rfl rfl ?_;refine pU 35 55 (mb 45 68719476735) HT_ rfl rfl ?_;refine pU 36 56 (mb 45 137438953471) HT_ rfl rfl ?_;refine pU 37 57 (mb 45 274877906943) HT_ rfl rfl ?_;refine pU 38 58 (mb 45 549755813887) HT_ rfl rfl ?_;refine pU 39 59 (mb 45 1099511627775) HT_ rfl rfl ?_;refine pU 40 60 (mb 45 2199023255551) HT_ rfl rfl ?_;refine pU 41 61 (mb 45 4398046511103) HT_ rfl rfl ?_;refine pU 42 62 (mb 45 8796093022207) HT_ rfl rfl ?_;refine pU 43 63 (mb 45 17592186044415) HT_ rfl rfl ?_;refine pA 44 64 (mb 45 35184372088831) HT_ rfl rfl ?_;refine done_ (done_of HT_.out (by kernel_rfl)) ?_
                  try go_wp2
                  go_meet
                  case rel => exact ⟨_, (true), (by first|rfl|(simp only [i64_w, i32_w];done)|(simp only [i64_w, i32_w];rfl)|(simp;done)|(simp [*];done)), H', ⟨by have := HK1.out;first|omega|exact Nat.le_refl _⟩, ⟨kK⟩, ⟨kK⟩, ⟨eB⟩⟩
              · rw [if_neg c14] at H;exact absurd H (by simp)
            · rw [if_neg c13] at H;exact absurd H (by simp)
          case rest =>
            clear HC10
            try clear c1
            try clear p1
            try clear q1
            try clear hx1
            try clear c2
            try clear p2
            try clear c10
            try clear p10
            try clear q10
            try clear hx10
            try clear c13
            try clear c14
            try clear c15
            try clear c15b0
            try clear c15b1
            try clear c21
            try clear hx105_0
            try clear hx105_1
            try clear hx105_2
            try clear hx106_0
            try clear hx106_1
            try clear hx106_2
            try clear p105
            try clear p106
            try clear q105
            try clear q106
            obtain ⟨kq, x64_9, rfl, HA, HJ9, BK103, BK104, HB⟩ := hcut
            cases kq with
            | zero => exact absurd HA.out (by simp [changeforgeequal_Patch.j1])
            | succ kj9 =>
              have H := HA.out;clear HA;simp only [changeforgeequal_Patch.j1] at H
              by_cases c22 : x64_9 = true
              · subst c22;have H1 : (some false) = some r := (by rw [if_pos rfl] at H;exact H);clear H;have H := H1;clear H1;obtain rfl := Option.some.inj H
                go_wp2
                go_ret
                exact ⟨rW, eB⟩
              · replace c22 := Bool.eq_false_iff.mpr c22;subst c22;have H1 : (changeforgeequal_Patch.l0 kj9 (wrap64 (x5_1 + 1)) l0_0 l1_0) = some r := (by rw [if_neg (show ¬ (false = true) by decide)] at H;exact H);clear H;have H := H1;clear H1;have H' := Aside0.mk H;clear H
                go_wp2
                go_roundg kj9
                case measure => have := HK1.out;have := HJ9.out;omega
                case rel => exact ⟨(wrap64 (x5_1 + 1)), (by first|rfl|(simp only [i64_w, i32_w];done)|(simp only [i64_w, i32_w];rfl)|(simp;done)|(simp [*];done)), H', ⟨by have := HK1.out;have := HJ9.out;omega⟩, ⟨kK⟩, ⟨kK⟩, ⟨eB⟩⟩
        · rw [if_neg c9] at H;have c9b0 : decide (x5_1 < (l0_0.length : Int)) = false := decide_eq_false c9;clear c9;obtain rfl := Option.some.inj H;have hnb23 := NB103_104.out;have hnc23 := NB104_103.out;have hcz24_0 : wr.cell? ⟨gb103, 0, none⟩ = some (.slice A0_0 l0_0.length c0_0) := (blk_cell BK103.out 0).trans rfl;have hfz24_0 := blk_frozen BK103.out 0
          go_wp2
          go_ret
          exact ⟨rW, eB⟩
  · rw [if_neg c3] at H;have c3b0 : ((l0_0.length : Int) == (l1_0.length : Int)) = false := beq_eq_false_iff_ne.mpr c3;have c3b1 : ((l0_0.length : Int) != (l1_0.length : Int)) = true := bne_iff_ne.mpr c3;have c3b2 : (l0_0.length == l1_0.length) = false := (by first|simpa using c3|(simp at c3 ⊢;omega));obtain rfl := Option.some.inj H
    go_enter Try.func22, Try.ntmps22
    go_wp2_with (first|((with_reducible refine gate_dst (N := 2) rfl ?_);refine bE 2 #[.slice A0_0 l0_0.length c0_0] 24 ?_;intro gb103 hg w25 hbox hb;have BK103 := Aside0.mk (hbox);have GW103 := gBe HB hg;have GE103 := gBe HB hg;replace HB := sBe HB hb;clear hb hbox hg)|((with_reducible refine gate_dst (N := 3) rfl ?_);refine bE 3 #[.slice A1_0 l1_0.length c1_0] 24 ?_;intro gb104 hg w26 hbox hb;have BK104 := Aside0.mk (hbox);have GW104 := gBe HB hg;have GE104 := gBe HB hg;have NB103_104 := nL BK103 hg;have NB104_103 := nG BK103 hg;replace BK103 := lJ BK103 hb;replace HB := sBe HB hb;clear hb hbox hg;have hnb27 := NB103_104.out;have hnc27 := NB104_103.out;have hcz28_0 := hC BK103 0 (.slice A0_0 l0_0.length c0_0);have hfz28_0 := blk_frozen BK103.out 0;have hcz29_0 := hC BK104 0 (.slice A1_0 l1_0.length c1_0);have hfz29_0 := blk_frozen BK104.out 0))
    go_ret
    exact ⟨rW, eB⟩

/-! ### textpatch_End: function 33 -/
def textpatch_End.f (a0_0 : Int) (l0_1 : List ByteArray) (l0_2 : List ByteArray) : Option (Int) := some (wrap64 (a0_0 + (l0_1.length : Int)))
set_option maxHeartbeats 8000000 in
set_option maxRecDepth 100000 in
theorem textpatch_End.calls (a0_0 : Int) (A0_1 : Option Addr) (c0_1 : Nat) (l0_1 : List ByteArray) (A0_2 : Option Addr) (c0_2 : Nat) (l0_2 : List ByteArray) (r : Int) (w : World) (hr0_1 : Kd.C Kd.string w A0_1 l0_1.length l0_1) (hc0_1 : l0_1.length ≤ c0_1) (hr0_2 : Kd.C Kd.string w A0_2 l0_2.length l0_2) (hc0_2 : l0_2.length ≤ c0_2) (h : textpatch_End.f a0_0 l0_1 l0_2 = some r) :
    Calls Try.prog 33 #[.agg #[.int .i64 a0_0, .slice A0_1 l0_1.length c0_1, .slice A0_2 l0_2.length c0_2]] w fun e w' => e = .returned (.int .i64 r) ∧ Below w.heap.size w w' := by
  have hu47 := Try.underlying47;have HR0_1 := Aside0.mk hr0_1;have HC0_1 := Aside0.mk hc0_1;clear hr0_1 hc0_1;have HR0_2 := Aside0.mk hr0_2;have HC0_2 := Aside0.mk hc0_2;clear hr0_2 hc0_2;have HB := Aside0.mk (Below.refl w.heap.size w);have H : (some (wrap64 (a0_0 + (l0_1.length : Int)))) = some r := h;clear h;obtain rfl := Option.some.inj H
  go_enter Try.func33, Try.ntmps33
  go_wp2_with (first|((with_reducible refine gate_dst (N := 1) rfl ?_);refine bE 1 #[.int .i64 a0_0, .slice A0_1 l0_1.length c0_1, .slice A0_2 l0_2.length c0_2] 47 ?_;intro gb113 hg w2 hbox hb;have BK113 := Aside0.mk (hbox);have GW113 := gBe HB hg;have GE113 := gBe HB hg;replace HB := sBe HB hb;clear hb hbox hg;have hcz3_0 := hC BK113 0 (.int .i64 a0_0);have hcz3_1 := hC BK113 1 (.slice A0_1 l0_1.length c0_1);have hcz3_2 := hC BK113 2 (.slice A0_2 l0_2.length c0_2);have hfz3_0 := blk_frozen BK113.out 0;have hfz3_1 := blk_frozen BK113.out 1;have hfz3_2 := blk_frozen BK113.out 2))
  go_ret
  exact ⟨rW, eB⟩

/-! ### strings_ContainsRune: function 67 -/
theorem indexByte_ge (c : UInt8) : ∀ l : List UInt8, decide (0 ≤ Lib.indexByte l c) = l.contains c ∧ -1 ≤ Lib.indexByte l c
  | [] => ⟨by simp [Lib.indexByte], by simp [Lib.indexByte]⟩
  | b :: l => by
    obtain ⟨ih1, ih2⟩ := indexByte_ge c l
    unfold Lib.indexByte
    by_cases h : b = c
    · subst h; simp
    · have hb : (b == c) = false := by simpa using h
      have hc : (c == b) = false := by simpa using fun e => h e.symm
      by_cases h2 : Lib.indexByte l c = -1
      · rw [h2] at ih1
        simp [h, h2] at ih1 ⊢
        exact ⟨fun e => h e.symm, ih1⟩
      · have h3 : (Lib.indexByte l c == -1) = false := by simpa using h2
        simp only [hb, h3, Bool.false_eq_true, if_false, List.contains_cons, hc, Bool.false_or]
        rw [← ih1]
        exact ⟨by rw [Bool.eq_iff_iff]; simp; omega, by omega⟩
def strings_ContainsRune.f (a0 : ByteArray) (a1 : Int) : Option (Bool) :=  if a1 = 10 then some (hasNl a0) else none
theorem strings_ContainsRune.calls (a0 : ByteArray) (a1 : Int) (r : Bool) (w : World) (h : strings_ContainsRune.f a0 a1 = some r) :
    Calls Try.prog 67 #[.string a0, .int .i32 a1] w fun e w' => e = .returned (.bool r) ∧ Drawn0 w w' := by
  unfold strings_ContainsRune.f at h
  split at h
  · rename_i e
    subst e
    obtain rfl := Option.some.inj h
    refine (Go.Proofs.Try.strings_ContainsRune_ascii a0 10 w (by omega) (by omega)).mono ?_
    rintro e w' ⟨rfl, rfl⟩
    refine ⟨?_, Drawn0.refl _⟩
    have e10 : (10 : Int).toNat.toUInt8 = 10 := by decide
    rw [e10, (indexByte_ge 10 a0.data.toList).1]
    rfl
  · cases h


/-! ### lines_Validate_0: function 57 -/
def lines_Validate_0.l0 : Nat → List ByteArray → Int → Int → Option (Int × Int)
  | 0, _, _, _ => none
  | k + 1, x9, x10, x11 => if x11 < x10 then (if 0 ≤ x11 then (if x11 < (x9.length : Int) then (if ((rdOf ByteArray.empty x9 x11).size : Int) > 80 then (some (2, x11)) else ((strings_ContainsRune.f (rdOf ByteArray.empty x9 x11) 10).bind fun t116 => (if t116 = true then (some (5, x11)) else (lines_Validate_0.l0 k x9 x10 (wrap64 (x11 + 1)))))) else (none)) else (none)) else (some (0, 0))
def lines_Validate_0.f (k : Nat) (l0 : List ByteArray) : Option (Int × Int) := if (l0.length : Int) > 120 then (some (2, (-1))) else (lines_Validate_0.l0 k l0 (l0.length : Int) 0)
theorem lines_Validate_0.mono_l : ∀ k, (∀ y0 y1 y2, LeO (lines_Validate_0.l0 k y0 y1 y2) (lines_Validate_0.l0 (k + 1) y0 y1 y2))
  | 0 => fun _ _ _ r h => by simp [lines_Validate_0.l0] at h
  | k + 1 => by
    have ih0 := lines_Validate_0.mono_l k
    · intro y0 y1 y2
      unfold lines_Validate_0.l0
      repeat' first
      | (with_reducible exact ih0 _ _ _)
      | (with_reducible exact LeO.refl _)
      | (with_reducible exact LeO.none _)
      | (with_reducible refine LeO.ite ?_ ?_)
      | (with_reducible refine LeO.bind ?_ (fun _ => ?_))
      | exact ih0 _ _ _
      | exact LeO.none _
      | refine LeO.ite ?_ ?_
      | refine LeO.bind ?_ (fun _ => ?_)
theorem lines_Validate_0.mono : ∀ a0 k, LeO (lines_Validate_0.f k a0) (lines_Validate_0.f (k + 1) a0) := by
  intro a0 k
  have ih0 := lines_Validate_0.mono_l k
  unfold lines_Validate_0.f
  repeat' first
      | (with_reducible exact ih0 _ _ _)
      | (with_reducible exact LeO.refl _)
      | (with_reducible exact LeO.none _)
      | (with_reducible refine LeO.ite ?_ ?_)
      | (with_reducible refine LeO.bind ?_ (fun _ => ?_))
      | exact ih0 _ _ _
      | exact LeO.none _
      | refine LeO.ite ?_ ?_
      | refine LeO.bind ?_ (fun _ => ?_)
set_option maxHeartbeats 8000000 in
set_option maxRecDepth 100000 in
theorem lines_Validate_0.calls (k : Nat) (A0 : Option Addr) (c0 : Nat) (l0 : List ByteArray) (r1 : Int) (r2 : Int) (w : World) (hr0 : Kd.C Kd.string w A0 l0.length l0) (hc0 : l0.length ≤ c0) (h : lines_Validate_0.f k l0 = some (r1, r2)) :
    Calls Try.prog 57 #[.slice A0 l0.length c0] w fun e w' => e = .returned (.agg #[.int .i64 r1, .int .i64 r2]) ∧ Below w.heap.size w w' := by
  have hu27 := Try.underlying27;have HR0 := Aside0.mk hr0;have HC0 := Aside0.mk hc0;clear hr0 hc0;have HB := Aside0.mk (Below.refl w.heap.size w);have H : (if (l0.length : Int) > 120 then (some (2, (-1))) else (lines_Validate_0.l0 k l0 (l0.length : Int) 0)) = some (r1, r2) := h;clear h
  by_cases c2 : (l0.length : Int) > 120
  · rw [if_pos c2] at H;have c2b0 : decide (120 < (l0.length : Int)) = true := decide_eq_true c2;have c2b1 : decide (120 < l0.length) = true := decide_eq_true (by omega);clear c2;simp only [Option.some.injEq, Prod.mk.injEq] at H;obtain ⟨rfl, rfl⟩ := H
    go_enter Try.func57, Try.ntmps57
    go_wp2_with (first|((with_reducible refine gate_dst (N := 2) rfl ?_);refine bE 2 #[.int .i64 0, .int .i64 0] 27 ?_;intro gb114 hg w3 hbox hb;have BK114 := Aside0.mk (hbox);have GW114 := gBe HB hg;have GE114 := gBe HB hg;replace HB := sBe HB hb;clear hb hbox hg;have hcz4_0 := hC BK114 0 (.int .i64 0);have hcz4_1 := hC BK114 1 (.int .i64 0);have hfz4_0 := blk_frozen BK114.out 0;have hfz4_1 := blk_frozen BK114.out 1))
    refine bodyPost_ret (results_cell_row rfl _ _ gb114 27 #[.int .i64 2, .int .i64 (-1)] (0, 0) _ rfl kK Try.underlying27 rfl (by kernel_rfl)) rfl ?_;exact ⟨rW, eB⟩
  · rw [if_neg c2] at H;have c2b0 : decide (120 < (l0.length : Int)) = false := decide_eq_false c2;have c2b1 : decide (120 < l0.length) = false := decide_eq_false (by omega);clear c2;have H' := Aside0.mk H;clear H
    go_enter Try.func57, Try.ntmps57
    go_wp2_with (first|((with_reducible refine gate_dst (N := 2) rfl ?_);refine bE 2 #[.int .i64 0, .int .i64 0] 27 ?_;intro gb114 hg w5 hbox hb;have BK114 := Aside0.mk (hbox);have GW114 := gBe HB hg;have GE114 := gBe HB hg;replace HB := sBe HB hb;clear hb hbox hg))
    go_loopg [11] k (fun kq v11 w' => ∃ (x11_1 : Int) (x115000_1 : Int) (x115001_1 : Int), v11 = .int .i64 x11_1 ∧ Aside0 (lines_Validate_0.l0 kq l0 (l0.length : Int) x11_1 = some (r1, r2)) ∧ Aside0 (kq ≤ k) ∧ Bk w' gb114 27 #[.int .i64 x115000_1, .int .i64 x115001_1] ∧ Aside0 (Below w.heap.size w w'))
    case atStart => exact ⟨(0), (0), (0), (by first|rfl|(simp only [i64_w, i32_w];done)|(simp only [i64_w, i32_w];rfl)|(simp;done)|(simp [*];done)), H', ⟨Nat.le_refl _⟩, ⟨kK⟩, ⟨eB⟩⟩
    case round =>
      clear H'
      try clear c2
      try clear c2b0
      try clear c2b1
      try clear p2
      try clear c5
      try clear hcz4_0
      try clear hcz4_1
      try clear hfz4_0
      try clear hfz4_1
      obtain ⟨x11_1, x115000_1, x115001_1, rfl, HA, HK1, BK114, HB⟩ := hrel
      cases gk with
      | zero => exact absurd HA.out (by simp [lines_Validate_0.l0])
      | succ k1 =>
        have H := HA.out;clear HA;simp only [lines_Validate_0.l0] at H
        by_cases c6 : x11_1 < (l0.length : Int)
        · rw [if_pos c6] at H;have c6b0 : decide (x11_1 < (l0.length : Int)) = true := decide_eq_true c6;clear c6
          by_cases c7 : 0 ≤ x11_1
          · rw [if_pos c7] at H;have c7b0 : decide (0 ≤ x11_1) = true := decide_eq_true c7;clear c7
            by_cases c8 : x11_1 < (l0.length : Int)
            · rw [if_pos c8] at H;have c8b0 : decide (x11_1 < (l0.length : Int)) = true := decide_eq_true c8;clear c8
              by_cases c9 : ((rdOf ByteArray.empty l0 x11_1).size : Int) > 80
              · rw [if_pos c9] at H;have c9b0 : decide (80 < ((rdOf ByteArray.empty l0 x11_1).size : Int)) = true := decide_eq_true c9;have c9b1 : decide (80 < (rdOf ByteArray.empty l0 x11_1).size) = true := decide_eq_true (by omega);clear c9;simp only [Option.some.injEq, Prod.mk.injEq] at H;obtain ⟨rfl, rfl⟩ := H;have p115 : 0 ≤ (x11_1 : Int) := dA;have q115 : x11_1 < (l0.length : Int) := dA;obtain ⟨ad115, e115, hx115_0⟩ := Kd.at_string HR0.out x11_1 p115 q115
                cases e115
                replace hx115_0 := (hX HB hx115_0:);replace p115 := eq_true p115;replace q115 := eq_true q115;have hcz10_0 : wr.cell? ⟨gb114, 0, none⟩ = some (.int .i64 x115000_1) := (blk_cell BK114.out 0).trans rfl;have hcz10_1 : wr.cell? ⟨gb114, 1, none⟩ = some (.int .i64 x115001_1) := (blk_cell BK114.out 1).trans rfl;have hfz10_0 := blk_frozen BK114.out 0;have hfz10_1 := blk_frozen BK114.out 1
                go_wp2
                refine bodyPost_ret (results_cell_row rfl _ _ gb114 27 #[.int .i64 2, .int .i64 x11_1] (0, 0) _ rfl kK Try.underlying27 rfl (by kernel_rfl)) rfl ?_;exact ⟨rW, eB⟩
              · rw [if_neg c9] at H;have c9b0 : decide (80 < ((rdOf ByteArray.empty l0 x11_1).size : Int)) = false := decide_eq_false c9;have c9b1 : decide (80 < (rdOf ByteArray.empty l0 x11_1).size) = false := decide_eq_false (by omega);clear c9;replace H := Option.bind_eq_some_iff.mp H;obtain ⟨t116, A110, H⟩ := H;replace H : (if t116 = true then (some (5, x11_1)) else (lines_Validate_0.l0 k1 l0 (l0.length : Int) (wrap64 (x11_1 + 1)))) = some (r1, r2) := H;have A11 := Aside0.mk A110;clear A110
                by_cases c12 : t116 = true
                · subst c12;have H1 : (some (5, x11_1)) = some (r1, r2) := (by rw [if_pos rfl] at H;exact H);clear H;have H := H1;clear H1;simp only [Option.some.injEq, Prod.mk.injEq] at H;obtain ⟨rfl, rfl⟩ := H;have p115 : 0 ≤ (x11_1 : Int) := dA;have q115 : x11_1 < (l0.length : Int) := dA;obtain ⟨ad115, e115, hx115_0⟩ := Kd.at_string HR0.out x11_1 p115 q115
                  cases e115
                  replace hx115_0 := (hX HB hx115_0:);replace p115 := eq_true p115;replace q115 := eq_true q115
                  go_wp2_with (first|((with_reducible refine gate_callee (f := 67) rfl ?_);refine goesL_ (some 24) rfl rfl Try.func67 (by kernel_rfl) rfl #[.string (rdOf ByteArray.empty l0 x11_1), .int .i32 10] rfl mA ?_;(with_reducible refine (strings_ContainsRune.calls (rdOf ByteArray.empty l0 x11_1) 10 true _ A11.out).mono ?_);rintro e w' ⟨rfl, ⟨nd, rfl⟩⟩;refine ⟨_, rfl, ?_⟩;(try (rw [drewN_self wr];generalize hq_ : World.drewN wr _ = wr;have n0_ : Aside0 (wr.heap[gb114]? = some (.cells #[.int .i64 x115000_1, .int .i64 x115001_1] 27 (0, 0))) := ⟨by rw [← hq_];exact kK⟩;have n1_ : Aside0 (Below w.heap.size w wr) := ⟨by rw [← hq_];exact eB⟩;clear BK114 HB hq_;have BK114 := n0_;have HB := n1_;clear n0_ n1_));have hcz13_0 : wr.cell? ⟨gb114, 0, none⟩ = some (.int .i64 x115000_1) := (blk_cell BK114.out 0).trans rfl;have hcz13_1 : wr.cell? ⟨gb114, 1, none⟩ = some (.int .i64 x115001_1) := (blk_cell BK114.out 1).trans rfl;have hfz13_0 := blk_frozen BK114.out 0;have hfz13_1 := blk_frozen BK114.out 1))
                  refine bodyPost_ret (results_cell_row rfl _ _ gb114 27 #[.int .i64 5, .int .i64 x11_1] (0, 0) _ rfl kK Try.underlying27 rfl (by kernel_rfl)) rfl ?_;exact ⟨rW, eB⟩
                · replace c12 := Bool.eq_false_iff.mpr c12;subst c12;have H1 : (lines_Validate_0.l0 k1 l0 (l0.length : Int) (wrap64 (x11_1 + 1))) = some (r1, r2) := (by rw [if_neg (show ¬ (false = true) by decide)] at H;exact H);clear H;have H := H1;clear H1;have H' := Aside0.mk H;clear H;have p115 : 0 ≤ (x11_1 : Int) := dA;have q115 : x11_1 < (l0.length : Int) := dA;obtain ⟨ad115, e115, hx115_0⟩ := Kd.at_string HR0.out x11_1 p115 q115
                  cases e115
                  replace hx115_0 := (hX HB hx115_0:);replace p115 := eq_true p115;replace q115 := eq_true q115
                  go_wp2_with (first|((with_reducible refine gate_callee (f := 67) rfl ?_);refine goesL_ (some 24) rfl rfl Try.func67 (by kernel_rfl) rfl #[.string (rdOf ByteArray.empty l0 x11_1), .int .i32 10] rfl mA ?_;(with_reducible refine (strings_ContainsRune.calls (rdOf ByteArray.empty l0 x11_1) 10 false _ A11.out).mono ?_);rintro e w' ⟨rfl, ⟨nd, rfl⟩⟩;refine ⟨_, rfl, ?_⟩))
                  go_roundg k1
                  case measure => have := HK1.out;omega
                  case rel => exact ⟨(wrap64 (x11_1 + 1)), (x115000_1), (x115001_1), (by first|rfl|(simp only [i64_w, i32_w];done)|(simp only [i64_w, i32_w];rfl)|(simp;done)|(simp [*];done)), H', ⟨by have := HK1.out;omega⟩, ⟨kK⟩, ⟨eB⟩⟩
            · rw [if_neg c8] at H;exact absurd H (by simp)
          · rw [if_neg c7] at H;exact absurd H (by simp)
        · rw [if_neg c6] at H;have c6b0 : decide (x11_1 < (l0.length : Int)) = false := decide_eq_false c6;clear c6;simp only [Option.some.injEq, Prod.mk.injEq] at H;obtain ⟨rfl, rfl⟩ := H;have hcz14_0 : wr.cell? ⟨gb114, 0, none⟩ = some (.int .i64 x115000_1) := (blk_cell BK114.out 0).trans rfl;have hcz14_1 : wr.cell? ⟨gb114, 1, none⟩ = some (.int .i64 x115001_1) := (blk_cell BK114.out 1).trans rfl;have hfz14_0 := blk_frozen BK114.out 0;have hfz14_1 := blk_frozen BK114.out 1
          go_wp2
          refine bodyPost_ret (results_cell_row rfl _ _ gb114 27 #[.int .i64 0, .int .i64 0] (0, 0) _ rfl kK Try.underlying27 rfl (by kernel_rfl)) rfl ?_;exact ⟨rW, eB⟩

/-! ### lines_Validate: function 57 -/
theorem lines_Validate_0.loop (l : List ByteArray) (hl : l.length ≤ 120) (d : Nat) : ∀ (k i : Nat), i ≤ l.length → l.length - i = d → d < k → lines_Validate_0.l0 k l (l.length : Int) (i : Int) = some (faultAt (l.drop i) (i : Int)) := by
  induction d with
  | zero =>
    intro k i hi hd hk
    obtain ⟨k, rfl⟩ : ∃ m, k = m + 1 := ⟨k - 1, by omega⟩
    simp only [lines_Validate_0.l0]
    rw [if_neg (by omega), List.drop_eq_nil_of_le (by omega)]
    rfl
  | succ d ih =>
    intro k i hi hd hk
    obtain ⟨k, rfl⟩ : ∃ m, k = m + 1 := ⟨k - 1, by omega⟩
    rw [rdOf_drop ByteArray.empty l i (by omega)]
    generalize hs : rdOf ByteArray.empty l (i : Int) = s
    simp only [lines_Validate_0.l0, hs]
    rw [if_pos (by omega), if_pos (by omega), if_pos (by omega)]
    simp only [faultAt]
    by_cases h1 : 80 < s.size
    · rw [if_pos (by omega), if_pos h1]
    · rw [if_neg (by omega), if_neg h1]
      simp only [strings_ContainsRune.f, if_true, Option.bind_some]
      by_cases h2 : hasNl s = true
      · rw [if_pos h2, if_pos h2]
      · rw [if_neg h2, if_neg h2, w64 (by omega) (by omega)]
        have := ih k (i + 1) (by omega) (by omega) (by omega)
        rw [Int.natCast_add] at this
        exact this
def lines_Validate.f (l0 : List ByteArray) : Option (Int × Int) :=  some (linesFault l0)
theorem lines_Validate.calls (A0 : Option Addr) (c0 : Nat) (l0 : List ByteArray) (r1 : Int) (r2 : Int) (w : World) (hr0 : Kd.C Kd.string w A0 l0.length l0) (hc0 : l0.length ≤ c0) (h : lines_Validate.f l0 = some (r1, r2)) :
    Calls Try.prog 57 #[.slice A0 l0.length c0] w fun e w' => e = .returned (.agg #[.int .i64 r1, .int .i64 r2]) ∧ Below w.heap.size w w' := by
  have h' : lines_Validate_0.f 121 l0 = some (r1, r2) := by
    rw [← h]
    unfold lines_Validate_0.f lines_Validate.f linesFault
    by_cases c : 120 < l0.length
    · rw [if_pos (by omega), if_pos c]
    · rw [if_neg (by omega), if_neg c]
      exact lines_Validate_0.loop l0 (by omega) l0.length 121 0 (by omega) (by omega) (by omega)
  exact (lines_Validate_0.calls (121) A0 c0 l0 r1 r2 w hr0 hc0 (h'))


/-! ### lines_Code_0: function 32 -/
def lines_Code_0.f (l0 : List ByteArray) : Option (Int) := (lines_Validate.f l0).bind fun bt117 => (some bt117.1)
set_option maxHeartbeats 8000000 in
set_option maxRecDepth 100000 in
theorem lines_Code_0.calls (A0 : Option Addr) (c0 : Nat) (l0 : List ByteArray) (r : Int) (w : World) (hr0 : Kd.C Kd.string w A0 l0.length l0) (hc0 : l0.length ≤ c0) (h : lines_Code_0.f l0 = some r) :
    Calls Try.prog 32 #[.slice A0 l0.length c0] w fun e w' => e = .returned (.int .i64 r) ∧ Below w.heap.size w w' := by
  have hu27 := Try.underlying27
  have HR0 := Aside0.mk hr0
  have HC0 := Aside0.mk hc0
  clear hr0 hc0
  have HB := Aside0.mk (Below.refl w.heap.size w)
  have H : ((lines_Validate.f l0).bind fun bt117 => (some bt117.1)) = some r := h
  clear h
  replace H := Option.bind_eq_some_iff.mp H
  obtain ⟨⟨t117, t118⟩, A20, H⟩ := H
  replace H : (some t117) = some r := H
  have A2 := Aside0.mk A20
  clear A20
  obtain rfl := Option.some.inj H
  have hfd27_0_ := fun (a0_ a1_ : Int) (w_ : World) => (show (Instr.field 27 (.agg #[.int .i64 a0_, .int .i64 a1_]) 0).run Try.prog w_ = .ok (.int .i64 a0_) w_ by kernel_rfl)
  go_enter Try.func32, Try.ntmps32
  go_wp2_with (first | ((with_reducible refine gate_callee (f := 57) rfl ?_); refine goesL_ (some 4) rfl rfl Try.func57 (by kernel_rfl) rfl #[.slice A0 l0.length c0] rfl (by (try simp only [List.map_toArray, List.map_cons, List.map_nil]); first | done | rfl | (simp only [List.length_drop, List.length_take]; rfl)) ?_; (with_reducible refine (lines_Validate.calls _ _ l0 t117 t118 _ ?side1 ?side2 A2.out).mono ?_); (case side1 => repeat (first | exact HR0.out | (with_reducible refine Kd.C_alloc ?_ _) | (with_reducible refine Kd.C_drewN ?_ _) | (with_reducible refine Kd.C_drew ?_))); (case side2 => exact HC0.out); rintro e w3 ⟨rfl, hb⟩; refine ⟨_, rfl, ?_⟩; have n0_ := Aside0.mk (below_step (by repeat (first | (with_reducible first | exact HB.out | apply below_alloc | apply pw_below_drewN | apply below_drew1) | exact HB.out)) hb); clear HB; have HB := n0_; clear n0_; (try clear hb); (try clear hb2); (try clear hk); (try clear hi)))
  go_ret
  exact ⟨by first | rfl | (simp [errW_none, errW_some] <;> rfl) | (simp [*, errW_none, errW_some] <;> rfl), by repeat (first | (with_reducible first | exact HB.out | apply below_alloc | apply pw_below_drewN | apply below_drew1) | exact HB.out)⟩

/-! ### lines_Code: function 32 -/
def lines_Code.f (l0 : List ByteArray) : Option (Int) :=  some (linesFault l0).1
theorem lines_Code.calls (A0 : Option Addr) (c0 : Nat) (l0 : List ByteArray) (r : Int) (w : World) (hr0 : Kd.C Kd.string w A0 l0.length l0) (hc0 : l0.length ≤ c0) (h : lines_Code.f l0 = some r) :
    Calls Try.prog 32 #[.slice A0 l0.length c0] w fun e w' => e = .returned (.int .i64 r) ∧ Below w.heap.size w w' := by
  have h' : lines_Code_0.f l0 = some r := h
  exact (lines_Code_0.calls A0 c0 l0 r w hr0 hc0 (h'))


/-! ### textpatch_hunkCode_0: function 43 -/
mutual
def textpatch_hunkCode_0.j0 : Nat → Int → Bool → Int → List ByteArray → List ByteArray → Option (Int)
  | 0, _, _, _, _, _ => none
  | k + 1, x1, x5, x120000, x120001, x120002 => if x5 = true then (some 3) else ((lines_Code.f x120001).bind fun t120 => (if t120 = 0 then ((lines_Code.f x120002).bind fun t121 => (if t121 = 0 then (if (x120001.length : Int) = 0 then (if (x120002.length : Int) = 0 then (textpatch_hunkCode_0.j1 k true x120000 x120001 x120002) else (textpatch_hunkCode_0.j1 k (decide (x120000 < x1)) x120000 x120001 x120002)) else (textpatch_hunkCode_0.j1 k (decide (x120000 < x1)) x120000 x120001 x120002)) else ((lines_Code.f x120002).bind fun t123 => (some t123)))) else ((lines_Code.f x120001).bind fun t124 => (some t124))))
def textpatch_hunkCode_0.j1 : Nat → Bool → Int → List ByteArray → List ByteArray → Option (Int)
  | 0, _, _, _, _ => none
  | k + 1, x30, x120000, x120001, x120002 => if x30 = true then (some 5) else ((textpatch_End.f x120000 x120001 x120002).bind fun t122 => (if t122 > 120 then (some 3) else (some 0)))
end
def textpatch_hunkCode_0.f (k : Nat) (a0_0 : Int) (l0_1 : List ByteArray) (l0_2 : List ByteArray) (a1 : Int) : Option (Int) := if a0_0 < 0 then (textpatch_hunkCode_0.j0 k a1 true a0_0 l0_1 l0_2) else (textpatch_hunkCode_0.j0 k a1 (decide (a0_0 > 120)) a0_0 l0_1 l0_2)
theorem textpatch_hunkCode_0.mono_l : ∀ k, (∀ y0 y1 y2 y3 y4, LeO (textpatch_hunkCode_0.j0 k y0 y1 y2 y3 y4) (textpatch_hunkCode_0.j0 (k + 1) y0 y1 y2 y3 y4)) ∧ (∀ y0 y1 y2 y3, LeO (textpatch_hunkCode_0.j1 k y0 y1 y2 y3) (textpatch_hunkCode_0.j1 (k + 1) y0 y1 y2 y3))
  | 0 => ⟨fun _ _ _ _ _ r h => by simp [textpatch_hunkCode_0.j0] at h, fun _ _ _ _ r h => by simp [textpatch_hunkCode_0.j1] at h⟩
  | k + 1 => by
    obtain ⟨ih0, ih1⟩ := textpatch_hunkCode_0.mono_l k;refine ⟨?_, ?_⟩
    · intro y0 y1 y2 y3 y4
      unfold textpatch_hunkCode_0.j0
      repeat' first
      | (with_reducible exact ih0 _ _ _ _ _)
      | (with_reducible exact ih1 _ _ _ _)
      | (with_reducible exact LeO.refl _)
      | (with_reducible exact LeO.none _)
      | (with_reducible refine LeO.ite ?_ ?_)
      | (with_reducible refine LeO.bind ?_ (fun _ => ?_))
      | exact ih0 _ _ _ _ _
      | exact ih1 _ _ _ _
      | exact LeO.none _
      | refine LeO.ite ?_ ?_
      | refine LeO.bind ?_ (fun _ => ?_)
    · intro y0 y1 y2 y3
      unfold textpatch_hunkCode_0.j1
      repeat' first
      | (with_reducible exact ih0 _ _ _ _ _)
      | (with_reducible exact ih1 _ _ _ _)
      | (with_reducible exact LeO.refl _)
      | (with_reducible exact LeO.none _)
      | (with_reducible refine LeO.ite ?_ ?_)
      | (with_reducible refine LeO.bind ?_ (fun _ => ?_))
      | exact ih0 _ _ _ _ _
      | exact ih1 _ _ _ _
      | exact LeO.none _
      | refine LeO.ite ?_ ?_
      | refine LeO.bind ?_ (fun _ => ?_)
theorem textpatch_hunkCode_0.mono : ∀ a0 a1 a2 a3 k, LeO (textpatch_hunkCode_0.f k a0 a1 a2 a3) (textpatch_hunkCode_0.f (k + 1) a0 a1 a2 a3) := by
  intro a0 a1 a2 a3 k
  obtain ⟨ih0, ih1⟩ := textpatch_hunkCode_0.mono_l k
  unfold textpatch_hunkCode_0.f
  repeat' first
      | (with_reducible exact ih0 _ _ _ _ _)
      | (with_reducible exact ih1 _ _ _ _)
      | (with_reducible exact LeO.refl _)
      | (with_reducible exact LeO.none _)
      | (with_reducible refine LeO.ite ?_ ?_)
      | (with_reducible refine LeO.bind ?_ (fun _ => ?_))
      | exact ih0 _ _ _ _ _
      | exact ih1 _ _ _ _
      | exact LeO.none _
      | refine LeO.ite ?_ ?_
      | refine LeO.bind ?_ (fun _ => ?_)
set_option maxHeartbeats 8000000 in
set_option maxRecDepth 100000 in
theorem textpatch_hunkCode_0.calls (k : Nat) (a0_0 : Int) (A0_1 : Option Addr) (c0_1 : Nat) (l0_1 : List ByteArray) (A0_2 : Option Addr) (c0_2 : Nat) (l0_2 : List ByteArray) (a1 : Int) (r : Int) (w : World) (hr0_1 : Kd.C Kd.string w A0_1 l0_1.length l0_1) (hc0_1 : l0_1.length ≤ c0_1) (hr0_2 : Kd.C Kd.string w A0_2 l0_2.length l0_2) (hc0_2 : l0_2.length ≤ c0_2) (h : textpatch_hunkCode_0.f k a0_0 l0_1 l0_2 a1 = some r) :
    Calls Try.prog 43 #[.agg #[.int .i64 a0_0, .slice A0_1 l0_1.length c0_1, .slice A0_2 l0_2.length c0_2], .int .i64 a1] w fun e w' => e = .returned (.int .i64 r) ∧ Below w.heap.size w w' := by
  have hu47 := Try.underlying47;have HR0_1 := Aside0.mk hr0_1;have HC0_1 := Aside0.mk hc0_1;clear hr0_1 hc0_1;have HR0_2 := Aside0.mk hr0_2;have HC0_2 := Aside0.mk hc0_2;clear hr0_2 hc0_2;have HB := Aside0.mk (Below.refl w.heap.size w);have H : (if a0_0 < 0 then (textpatch_hunkCode_0.j0 k a1 true a0_0 l0_1 l0_2) else (textpatch_hunkCode_0.j0 k a1 (decide (a0_0 > 120)) a0_0 l0_1 l0_2)) = some r := h;clear h;have HC3 := Aside0.mk H;clear H
  go_enter Try.func43, Try.ntmps43
  go_upto_region 1 with (first|((with_reducible refine gate_dst (N := 2) rfl ?_);(try (refine gate_guard (by rfl) ?_;dsimp only));refine bE 2 #[.int .i64 a0_0, .slice A0_1 l0_1.length c0_1, .slice A0_2 l0_2.length c0_2] 47 ?_;intro gb119 hg w4 hbox hb;have BK119 := Aside0.mk (hbox);have GW119 := gBe HB hg;have GE119 := gBe HB hg;replace HB := sBe HB hb;clear hb hbox hg))
  (try simp only [Act.put, sA, sB, sC])
  go_cut [5] (fun v5 wc => ∃ (kq : Nat) (x5_2 : Bool), v5 = .bool x5_2 ∧ Aside0 (textpatch_hunkCode_0.j0 kq a1 x5_2 a0_0 l0_1 l0_2 = some r) ∧ Aside0 (kq ≤ k) ∧ Aside0 (wc.heap[gb119]? = some (.cells #[.int .i64 a0_0, (.slice A0_1 l0_1.length c0_1), (.slice A0_2 l0_2.length c0_2)] 47 (0, 0))) ∧ Aside0 (Below w.heap.size w wc))
  case first =>
    have H := HC3.out;clear HC3
    by_cases c5 : a0_0 < 0
    · rw [if_pos c5] at H;have c5b0 : decide (a0_0 < 0) = true := decide_eq_true c5;clear c5
      (first|rw [c5b0]|(simp only [i64_w, i32_w];rw [c5b0])|skip)
      have H' := Aside0.mk H;clear H;have hcz6_0 := hC BK119 0 (.int .i64 a0_0);have hcz6_1 := hC BK119 1 (.slice A0_1 l0_1.length c0_1);have hcz6_2 := hC BK119 2 (.slice A0_2 l0_2.length c0_2);have hfz6_0 := blk_frozen BK119.out 0;have hfz6_1 := blk_frozen BK119.out 1;have hfz6_2 := blk_frozen BK119.out 2
      go_wp2
      go_meet
      case rel => exact ⟨_, (true), (by first|rfl|(simp only [i64_w, i32_w];done)|(simp only [i64_w, i32_w];rfl)|(simp;done)|(simp [*];done)), H', ⟨by first|omega|exact Nat.le_refl _⟩, ⟨kK⟩, ⟨eB⟩⟩
    · rw [if_neg c5] at H;have c5b0 : decide (a0_0 < 0) = false := decide_eq_false c5;clear c5
      (first|rw [c5b0]|(simp only [i64_w, i32_w];rw [c5b0])|skip)
      have H' := Aside0.mk H;clear H;have hcz7_0 := hC BK119 0 (.int .i64 a0_0);have hcz7_1 := hC BK119 1 (.slice A0_1 l0_1.length c0_1);have hcz7_2 := hC BK119 2 (.slice A0_2 l0_2.length c0_2);have hfz7_0 := blk_frozen BK119.out 0;have hfz7_1 := blk_frozen BK119.out 1;have hfz7_2 := blk_frozen BK119.out 2
      go_wp2
      go_meet
      case rel => exact ⟨_, (decide (a0_0 > 120)), (by first|rfl|(simp only [i64_w, i32_w];done)|(simp only [i64_w, i32_w];rfl)|(simp;done)|(simp [*];done)), H', ⟨by first|omega|exact Nat.le_refl _⟩, ⟨kK⟩, ⟨eB⟩⟩
  case rest =>
    clear HC3
    try clear p2
    try clear c4
    try clear c5
    try clear c5b0
    try clear hcz6_0
    try clear hcz6_1
    try clear hcz6_2
    try clear hcz7_0
    try clear hcz7_1
    try clear hcz7_2
    try clear hfz6_0
    try clear hfz6_1
    try clear hfz6_2
    try clear hfz7_0
    try clear hfz7_1
    try clear hfz7_2
    obtain ⟨kq, x5_2, rfl, HA, HJ2, BK119, HB⟩ := hcut
    cases kq with
    | zero => exact absurd HA.out (by simp [textpatch_hunkCode_0.j0])
    | succ kj2 =>
      have H := HA.out;clear HA;simp only [textpatch_hunkCode_0.j0] at H
      by_cases c8 : x5_2 = true
      · subst c8;have H1 : (some 3) = some r := (by rw [if_pos rfl] at H;exact H);clear H;have H := H1;clear H1;obtain rfl := Option.some.inj H
        go_wp2
        go_ret
        exact ⟨rW, eB⟩
      · replace c8 := Bool.eq_false_iff.mpr c8;subst c8;have H1 : ((lines_Code.f l0_1).bind fun t120 => (if t120 = 0 then ((lines_Code.f l0_2).bind fun t121 => (if t121 = 0 then (if (l0_1.length : Int) = 0 then (if (l0_2.length : Int) = 0 then (textpatch_hunkCode_0.j1 kj2 true a0_0 l0_1 l0_2) else (textpatch_hunkCode_0.j1 kj2 (decide (a0_0 < a1)) a0_0 l0_1 l0_2)) else (textpatch_hunkCode_0.j1 kj2 (decide (a0_0 < a1)) a0_0 l0_1 l0_2)) else ((lines_Code.f l0_2).bind fun t123 => (some t123)))) else ((lines_Code.f l0_1).bind fun t124 => (some t124)))) = some r := (by rw [if_neg (show ¬ (false = true) by decide)] at H;exact H);clear H;have H := H1;clear H1;replace H := Option.bind_eq_some_iff.mp H;obtain ⟨t120, A90, H⟩ := H;replace H : (if t120 = 0 then ((lines_Code.f l0_2).bind fun t121 => (if t121 = 0 then (if (l0_1.length : Int) = 0 then (if (l0_2.length : Int) = 0 then (textpatch_hunkCode_0.j1 kj2 true a0_0 l0_1 l0_2) else (textpatch_hunkCode_0.j1 kj2 (decide (a0_0 < a1)) a0_0 l0_1 l0_2)) else (textpatch_hunkCode_0.j1 kj2 (decide (a0_0 < a1)) a0_0 l0_1 l0_2)) else ((lines_Code.f l0_2).bind fun t123 => (some t123)))) else ((lines_Code.f l0_1).bind fun t124 => (some t124))) = some r := H;have A9 := Aside0.mk A90;clear A90
        by_cases c10 : t120 = 0
        · rw [if_pos c10] at H;have c10b0 : (t120 == 0) = true := beq_iff_eq.mpr c10;have c10b1 : (t120 != 0) = false := bne_eq_false_iff_eq.mpr c10;clear c10;replace H := Option.bind_eq_some_iff.mp H;obtain ⟨t121, A110, H⟩ := H;replace H : (if t121 = 0 then (if (l0_1.length : Int) = 0 then (if (l0_2.length : Int) = 0 then (textpatch_hunkCode_0.j1 kj2 true a0_0 l0_1 l0_2) else (textpatch_hunkCode_0.j1 kj2 (decide (a0_0 < a1)) a0_0 l0_1 l0_2)) else (textpatch_hunkCode_0.j1 kj2 (decide (a0_0 < a1)) a0_0 l0_1 l0_2)) else ((lines_Code.f l0_2).bind fun t123 => (some t123))) = some r := H;have A11 := Aside0.mk A110;clear A110
          by_cases c12 : t121 = 0
          · rw [if_pos c12] at H;have c12b0 : (t121 == 0) = true := beq_iff_eq.mpr c12;have c12b1 : (t121 != 0) = false := bne_eq_false_iff_eq.mpr c12;clear c12;have HC13 := Aside0.mk H;clear H;have hcz14_0 : wc.cell? ⟨gb119, 0, none⟩ = some (.int .i64 a0_0) := (blk_cell BK119.out 0).trans rfl;have hcz14_1 : wc.cell? ⟨gb119, 1, none⟩ = some (.slice A0_1 l0_1.length c0_1) := (blk_cell BK119.out 1).trans rfl;have hcz14_2 : wc.cell? ⟨gb119, 2, none⟩ = some (.slice A0_2 l0_2.length c0_2) := (blk_cell BK119.out 2).trans rfl;have hfz14_0 := blk_frozen BK119.out 0;have hfz14_1 := blk_frozen BK119.out 1;have hfz14_2 := blk_frozen BK119.out 2
            go_upto_region 7 with (first|((with_reducible refine gate_callee (f := 32) rfl ?_);refine goesL_ (some 17) rfl rfl Try.func32 (by kernel_rfl) rfl #[.slice A0_1 l0_1.length c0_1] rfl mA ?_;(with_reducible refine (lines_Code.calls _ _ l0_1 t120 _ ?side1 ?side2 A9.out).mono ?_);(case side1 => exact cBe HR0_1);(case side2 => exact HC0_1.out);rintro e w15 ⟨rfl, hb⟩;refine ⟨_, rfl, ?_⟩;replace BK119 := lJ BK119 hb;replace HB := sBe HB hb;(try clear hb);have hcz16_0 := hC BK119 0 (.int .i64 a0_0);have hcz16_1 := hC BK119 1 (.slice A0_1 l0_1.length c0_1);have hcz16_2 := hC BK119 2 (.slice A0_2 l0_2.length c0_2);have hfz16_0 := blk_frozen BK119.out 0;have hfz16_1 := blk_frozen BK119.out 1;have hfz16_2 := blk_frozen BK119.out 2)|((with_reducible refine gate_callee (f := 32) rfl ?_);refine goesL_ (some 25) rfl rfl Try.func32 (by kernel_rfl) rfl #[.slice A0_2 l0_2.length c0_2] rfl mA ?_;(with_reducible refine (lines_Code.calls _ _ l0_2 t121 _ ?side1 ?side2 A11.out).mono ?_);(case side1 => exact cBe HR0_2);(case side2 => exact HC0_2.out);rintro e w17 ⟨rfl, hb⟩;refine ⟨_, rfl, ?_⟩;replace BK119 := lJ BK119 hb;replace HB := sBe HB hb;(try clear hb)))
            (try simp only [Act.put, sA, sB, sC])
            go_cut [30] (fun v30 wc => ∃ (kq : Nat) (x30_12 : Bool), v30 = .bool x30_12 ∧ Aside0 (textpatch_hunkCode_0.j1 kq x30_12 a0_0 l0_1 l0_2 = some r) ∧ Aside0 (kq ≤ kj2) ∧ Aside0 (wc.heap[gb119]? = some (.cells #[.int .i64 a0_0, (.slice A0_1 l0_1.length c0_1), (.slice A0_2 l0_2.length c0_2)] 47 (0, 0))) ∧ Aside0 (Below w.heap.size w wc))
            case first =>
              have H := HC13.out;clear HC13
              by_cases c18 : (l0_1.length : Int) = 0
              · rw [if_pos c18] at H;have c18b0 : ((l0_1.length : Int) == 0) = true := beq_iff_eq.mpr c18;have c18b1 : ((l0_1.length : Int) != 0) = false := bne_eq_false_iff_eq.mpr c18;clear c18
                (first|rw [c18b0]|(simp only [i64_w, i32_w];rw [c18b0])|skip)
                have hcz20_0 := hC BK119 0 (.int .i64 a0_0);have hcz20_1 := hC BK119 1 (.slice A0_1 l0_1.length c0_1);have hcz20_2 := hC BK119 2 (.slice A0_2 l0_2.length c0_2);have hfz20_0 := blk_frozen BK119.out 0;have hfz20_1 := blk_frozen BK119.out 1;have hfz20_2 := blk_frozen BK119.out 2
                by_cases c19 : (l0_2.length : Int) = 0
                · rw [if_pos c19] at H;have c19b0 : ((l0_2.length : Int) == 0) = true := beq_iff_eq.mpr c19;have c19b1 : ((l0_2.length : Int) != 0) = false := bne_eq_false_iff_eq.mpr c19;clear c19;have H' := Aside0.mk H;clear H
                  go_wp2
                  go_meet
                  case rel => exact ⟨_, (true), (by first|rfl|(simp only [i64_w, i32_w];done)|(simp only [i64_w, i32_w];rfl)|(simp;done)|(simp [*];done)), H', ⟨by have := HJ2.out;first|omega|exact Nat.le_refl _⟩, ⟨kK⟩, ⟨eB⟩⟩
                · rw [if_neg c19] at H;have c19b0 : ((l0_2.length : Int) == 0) = false := beq_eq_false_iff_ne.mpr c19;have c19b1 : ((l0_2.length : Int) != 0) = true := bne_iff_ne.mpr c19;have c19b2 : ¬ (l0_2 = []) := (fun h_ => c19 (by rw [h_];rfl));have H' := Aside0.mk H;clear H
                  go_wp2
                  go_meet
                  case rel => exact ⟨_, (decide (a0_0 < a1)), (by first|rfl|(simp only [i64_w, i32_w];done)|(simp only [i64_w, i32_w];rfl)|(simp;done)|(simp [*];done)), H', ⟨by have := HJ2.out;first|omega|exact Nat.le_refl _⟩, ⟨kK⟩, ⟨eB⟩⟩
              · rw [if_neg c18] at H;have c18b0 : ((l0_1.length : Int) == 0) = false := beq_eq_false_iff_ne.mpr c18;have c18b1 : ((l0_1.length : Int) != 0) = true := bne_iff_ne.mpr c18;have c18b2 : ¬ (l0_1 = []) := (fun h_ => c18 (by rw [h_];rfl))
                (first|rw [c18b0]|(simp only [i64_w, i32_w];rw [c18b0])|skip)
                have H' := Aside0.mk H;clear H;have hcz22_0 := hC BK119 0 (.int .i64 a0_0);have hcz22_1 := hC BK119 1 (.slice A0_1 l0_1.length c0_1);have hcz22_2 := hC BK119 2 (.slice A0_2 l0_2.length c0_2);have hfz22_0 := blk_frozen BK119.out 0;have hfz22_1 := blk_frozen BK119.out 1;have hfz22_2 := blk_frozen BK119.out 2
                go_wp2
                go_meet
                case rel => exact ⟨_, (decide (a0_0 < a1)), (by first|rfl|(simp only [i64_w, i32_w];done)|(simp only [i64_w, i32_w];rfl)|(simp;done)|(simp [*];done)), H', ⟨by have := HJ2.out;first|omega|exact Nat.le_refl _⟩, ⟨kK⟩, ⟨eB⟩⟩
            case rest =>
              clear HC13
              try clear c1
              try clear p2
              try clear c3
              try clear c4
              try clear c5
              try clear c5b0
              try clear c8
              try clear c10
              try clear c10b0
              try clear c10b1
              try clear c12
              try clear c12b0
              try clear c12b1
              try clear c18
              try clear c18b0
              try clear c18b1
              try clear c18b2
              try clear c19
              try clear c19b0
              try clear c19b1
              try clear c19b2
              try clear hcz14_0
              try clear hcz14_1
              try clear hcz14_2
              try clear hcz16_0
              try clear hcz16_1
              try clear hcz16_2
              try clear hcz20_0
              try clear hcz20_1
              try clear hcz20_2
              try clear hcz21_0
              try clear hcz21_1
              try clear hcz21_2
              try clear hcz22_0
              try clear hcz22_1
              try clear hcz22_2
              try clear hcz6_0
              try clear hcz6_1
              try clear hcz6_2
              try clear hcz7_0
              try clear hcz7_1
              try clear hcz7_2
              try clear hfz14_0
              try clear hfz14_1
              try clear hfz14_2
              try clear hfz16_0
              try clear hfz16_1
              try clear hfz16_2
              try clear hfz20_0
              try clear hfz20_1
              try clear hfz20_2
              try clear hfz21_0
              try clear hfz21_1
              try clear hfz21_2
              try clear hfz22_0
              try clear hfz22_1
              try clear hfz22_2
              try clear hfz6_0
              try clear hfz6_1
              try clear hfz6_2
              try clear hfz7_0
              try clear hfz7_1
              try clear hfz7_2
              try clear p2
              obtain ⟨kq, x30_12, rfl, HA, HJ12, BK119, HB⟩ := hcut
              cases kq with
              | zero => exact absurd HA.out (by simp [textpatch_hunkCode_0.j1])
              | succ kj12 =>
                have H := HA.out;clear HA;simp only [textpatch_hunkCode_0.j1] at H
                by_cases c23 : x30_12 = true
                · subst c23;have H1 : (some 5) = some r := (by rw [if_pos rfl] at H;exact H);clear H;have H := H1;clear H1;obtain rfl := Option.some.inj H
                  go_wp2
                  go_ret
                  exact ⟨rW, eB⟩
                · replace c23 := Bool.eq_false_iff.mpr c23;subst c23;have H1 : ((textpatch_End.f a0_0 l0_1 l0_2).bind fun t122 => (if t122 > 120 then (some 3) else (some 0))) = some r := (by rw [if_neg (show ¬ (false = true) by decide)] at H;exact H);clear H;have H := H1;clear H1;replace H := Option.bind_eq_some_iff.mp H;obtain ⟨t122, A240, H⟩ := H;replace H : (if t122 > 120 then (some 3) else (some 0)) = some r := H;have A24 := Aside0.mk A240;clear A240;have hcz26_0 : wc.cell? ⟨gb119, 0, none⟩ = some (.int .i64 a0_0) := (blk_cell BK119.out 0).trans rfl;have hcz26_1 : wc.cell? ⟨gb119, 1, none⟩ = some (.slice A0_1 l0_1.length c0_1) := (blk_cell BK119.out 1).trans rfl;have hcz26_2 : wc.cell? ⟨gb119, 2, none⟩ = some (.slice A0_2 l0_2.length c0_2) := (blk_cell BK119.out 2).trans rfl;have hfz26_0 := blk_frozen BK119.out 0;have hfz26_1 := blk_frozen BK119.out 1;have hfz26_2 := blk_frozen BK119.out 2
                  by_cases c25 : t122 > 120
                  · rw [if_pos c25] at H;have c25b0 : decide (120 < t122) = true := decide_eq_true c25;clear c25;obtain rfl := Option.some.inj H
                    go_wp2_with (first|((with_reducible refine gate_callee (f := 33) rfl ?_);refine goesL_ (some 49) rfl rfl Try.func33 (by kernel_rfl) rfl #[.agg #[.int .i64 a0_0, .slice A0_1 l0_1.length c0_1, .slice A0_2 l0_2.length c0_2]] rfl mA ?_;(with_reducible refine (textpatch_End.calls a0_0 _ _ l0_1 _ _ l0_2 t122 _ ?side1 ?side2 ?side3 ?side4 A24.out).mono ?_);(case side1 => exact cBe HR0_1);(case side2 => exact HC0_1.out);(case side3 => exact cBe HR0_2);(case side4 => exact HC0_2.out);rintro e w27 ⟨rfl, hb⟩;refine ⟨_, rfl, ?_⟩;replace BK119 := lJ BK119 hb;replace HB := sBe HB hb;(try clear hb)))
                    go_ret
                    exact ⟨rW, eB⟩
                  · rw [if_neg c25] at H;have c25b0 : decide (120 < t122) = false := decide_eq_false c25;clear c25;obtain rfl := Option.some.inj H
                    go_wp2_with (first|((with_reducible refine gate_callee (f := 33) rfl ?_);refine goesL_ (some 49) rfl rfl Try.func33 (by kernel_rfl) rfl #[.agg #[.int .i64 a0_0, .slice A0_1 l0_1.length c0_1, .slice A0_2 l0_2.length c0_2]] rfl mA ?_;(with_reducible refine (textpatch_End.calls a0_0 _ _ l0_1 _ _ l0_2 t122 _ ?side1 ?side2 ?side3 ?side4 A24.out).mono ?_);(case side1 => exact cBe HR0_1);(case side2 => exact HC0_1.out);(case side3 => exact cBe HR0_2);(case side4 => exact HC0_2.out);rintro e w27 ⟨rfl, hb⟩;refine ⟨_, rfl, ?_⟩;replace BK119 := lJ BK119 hb;replace HB := sBe HB hb;(try clear hb)))
                    go_ret
                    exact ⟨rW, eB⟩
          · rw [if_neg c12] at H;have c12b0 : (t121 == 0) = false := beq_eq_false_iff_ne.mpr c12;have c12b1 : (t121 != 0) = true := bne_iff_ne.mpr c12;replace H := Option.bind_eq_some_iff.mp H;obtain ⟨t123, A300, H⟩ := H;replace H : (some t123) = some r := H;have A30 := Aside0.mk A300;clear A300;obtain rfl := Option.some.inj H;have hcz31_0 : wc.cell? ⟨gb119, 0, none⟩ = some (.int .i64 a0_0) := (blk_cell BK119.out 0).trans rfl;have hcz31_1 : wc.cell? ⟨gb119, 1, none⟩ = some (.slice A0_1 l0_1.length c0_1) := (blk_cell BK119.out 1).trans rfl;have hcz31_2 : wc.cell? ⟨gb119, 2, none⟩ = some (.slice A0_2 l0_2.length c0_2) := (blk_cell BK119.out 2).trans rfl;have hfz31_0 := blk_frozen BK119.out 0;have hfz31_1 := blk_frozen BK119.out 1;have hfz31_2 := blk_frozen BK119.out 2
            go_wp2_with (first|((with_reducible refine gate_callee (f := 32) rfl ?_);refine goesL_ (some 17) rfl rfl Try.func32 (by kernel_rfl) rfl #[.slice A0_1 l0_1.length c0_1] rfl mA ?_;(with_reducible refine (lines_Code.calls _ _ l0_1 t120 _ ?side1 ?side2 A9.out).mono ?_);(case side1 => exact cBe HR0_1);(case side2 => exact HC0_1.out);rintro e w32 ⟨rfl, hb⟩;refine ⟨_, rfl, ?_⟩;replace BK119 := lJ BK119 hb;replace HB := sBe HB hb;(try clear hb);have hcz33_0 := hC BK119 0 (.int .i64 a0_0);have hcz33_1 := hC BK119 1 (.slice A0_1 l0_1.length c0_1);have hcz33_2 := hC BK119 2 (.slice A0_2 l0_2.length c0_2);have hfz33_0 := blk_frozen BK119.out 0;have hfz33_1 := blk_frozen BK119.out 1;have hfz33_2 := blk_frozen BK119.out 2)|((with_reducible refine gate_callee (f := 32) rfl ?_);refine goesL_ (some 25) rfl rfl Try.func32 (by kernel_rfl) rfl #[.slice A0_2 l0_2.length c0_2] rfl mA ?_;(with_reducible refine (lines_Code.calls _ _ l0_2 t121 _ ?side1 ?side2 A11.out).mono ?_);(case side1 => exact cBe HR0_2);(case side2 => exact HC0_2.out);rintro e w34 ⟨rfl, hb⟩;refine ⟨_, rfl, ?_⟩;replace BK119 := lJ BK119 hb;replace HB := sBe HB hb;(try clear hb);have hcz35_0 := hC BK119 0 (.int .i64 a0_0);have hcz35_1 := hC BK119 1 (.slice A0_1 l0_1.length c0_1);have hcz35_2 := hC BK119 2 (.slice A0_2 l0_2.length c0_2);have hfz35_0 := blk_frozen BK119.out 0;have hfz35_1 := blk_frozen BK119.out 1;have hfz35_2 := blk_frozen BK119.out 2)|((with_reducible refine gate_callee (f := 32) rfl ?_);refine goesL_ (some 29) rfl rfl Try.func32 (by kernel_rfl) rfl #[.slice A0_2 l0_2.length c0_2] rfl mA ?_;(with_reducible refine (lines_Code.calls _ _ l0_2 t123 _ ?side1 ?side2 A30.out).mono ?_);(case side1 => exact cBe HR0_2);(case side2 => exact HC0_2.out);rintro e w36 ⟨rfl, hb⟩;refine ⟨_, rfl, ?_⟩;replace BK119 := lJ BK119 hb;replace HB := sBe HB hb;(try clear hb)))
            go_ret
            exact ⟨rW, eB⟩
        · rw [if_neg c10] at H;have c10b0 : (t120 == 0) = false := beq_eq_false_iff_ne.mpr c10;have c10b1 : (t120 != 0) = true := bne_iff_ne.mpr c10;replace H := Option.bind_eq_some_iff.mp H;obtain ⟨t124, A370, H⟩ := H;replace H : (some t124) = some r := H;have A37 := Aside0.mk A370;clear A370;obtain rfl := Option.some.inj H;have hcz38_0 : wc.cell? ⟨gb119, 0, none⟩ = some (.int .i64 a0_0) := (blk_cell BK119.out 0).trans rfl;have hcz38_1 : wc.cell? ⟨gb119, 1, none⟩ = some (.slice A0_1 l0_1.length c0_1) := (blk_cell BK119.out 1).trans rfl;have hcz38_2 : wc.cell? ⟨gb119, 2, none⟩ = some (.slice A0_2 l0_2.length c0_2) := (blk_cell BK119.out 2).trans rfl;have hfz38_0 := blk_frozen BK119.out 0;have hfz38_1 := blk_frozen BK119.out 1;have hfz38_2 := blk_frozen BK119.out 2
          go_wp2_with (first|((with_reducible refine gate_callee (f := 32) rfl ?_);refine goesL_ (some 17) rfl rfl Try.func32 (by kernel_rfl) rfl #[.slice A0_1 l0_1.length c0_1] rfl mA ?_;(with_reducible refine (lines_Code.calls _ _ l0_1 t120 _ ?side1 ?side2 A9.out).mono ?_);(case side1 => exact cBe HR0_1);(case side2 => exact HC0_1.out);rintro e w39 ⟨rfl, hb⟩;refine ⟨_, rfl, ?_⟩;replace BK119 := lJ BK119 hb;replace HB := sBe HB hb;(try clear hb);have hcz40_0 := hC BK119 0 (.int .i64 a0_0);have hcz40_1 := hC BK119 1 (.slice A0_1 l0_1.length c0_1);have hcz40_2 := hC BK119 2 (.slice A0_2 l0_2.length c0_2);have hfz40_0 := blk_frozen BK119.out 0;have hfz40_1 := blk_frozen BK119.out 1;have hfz40_2 := blk_frozen BK119.out 2)|((with_reducible refine gate_callee (f := 32) rfl ?_);refine goesL_ (some 21) rfl rfl Try.func32 (by kernel_rfl) rfl #[.slice A0_1 l0_1.length c0_1] rfl mA ?_;(with_reducible refine (lines_Code.calls _ _ l0_1 t124 _ ?side1 ?side2 A37.out).mono ?_);(case side1 => exact cBe HR0_1);(case side2 => exact HC0_1.out);rintro e w41 ⟨rfl, hb⟩;refine ⟨_, rfl, ?_⟩;replace BK119 := lJ BK119 hb;replace HB := sBe HB hb;(try clear hb)))
          go_ret
          exact ⟨rW, eB⟩

/-! ### textpatch_hunkCode: function 43 -/
def textpatch_hunkCode.f (a0_0 : Int) (l0_1 : List ByteArray) (l0_2 : List ByteArray) (a1 : Int) : Option (Int) :=  some (hkCode (a0_0, l0_1, l0_2) a1)
theorem textpatch_hunkCode.calls (a0_0 : Int) (A0_1 : Option Addr) (c0_1 : Nat) (l0_1 : List ByteArray) (A0_2 : Option Addr) (c0_2 : Nat) (l0_2 : List ByteArray) (a1 : Int) (r : Int) (w : World) (hr0_1 : Kd.C Kd.string w A0_1 l0_1.length l0_1) (hc0_1 : l0_1.length ≤ c0_1) (hr0_2 : Kd.C Kd.string w A0_2 l0_2.length l0_2) (hc0_2 : l0_2.length ≤ c0_2) (h : textpatch_hunkCode.f a0_0 l0_1 l0_2 a1 = some r) :
    Calls Try.prog 43 #[.agg #[.int .i64 a0_0, .slice A0_1 l0_1.length c0_1, .slice A0_2 l0_2.length c0_2], .int .i64 a1] w fun e w' => e = .returned (.int .i64 r) ∧ Below w.heap.size w w' := by
  have h' : textpatch_hunkCode_0.f 2 a0_0 l0_1 l0_2 a1 = some r := by
    rw [← h]
    have hj : ∀ b : Bool, 0 ≤ a0_0 → a0_0 ≤ 120 → l0_1.length ≤ 120 → textpatch_hunkCode_0.j1 1 b a0_0 l0_1 l0_2 = some (if b = true then 5 else if 120 < hkEnd (a0_0, l0_1, l0_2) then 3 else 0) := by
      intro b h0 h1 h2
      simp only [textpatch_hunkCode_0.j1, textpatch_End.f, Option.bind_some]
      rw [w64 (by omega) (by omega)]
      unfold hkEnd
      by_cases c : b = true
      · rw [if_pos c, if_pos c]
      · rw [if_neg c, if_neg c]
        by_cases d : 120 < a0_0 + (l0_1.length : Int)
        · rw [if_pos (by omega), if_pos d]
        · rw [if_neg (by omega), if_neg d]
    unfold textpatch_hunkCode_0.f textpatch_hunkCode.f hkCode
    simp only [textpatch_hunkCode_0.j0, lines_Code.f, Option.bind_some]
    by_cases c1 : a0_0 < 0
    · rw [if_pos c1, if_pos trivial, if_pos (.inl c1)]
    · rw [if_neg c1]
      by_cases c1' : a0_0 > 120
      · rw [decide_eq_true c1', if_pos rfl, if_pos (.inr c1')]
      · rw [decide_eq_false c1', if_neg (by decide), if_neg (show ¬ (a0_0 < 0 ∨ 120 < a0_0) by omega)]
        by_cases c2 : (linesFault l0_1).1 = 0
        · rw [if_pos c2, if_pos c2]
          by_cases c3 : (linesFault l0_2).1 = 0
          · rw [if_pos c3, if_pos c3]
            have hl := (linesFault_ok.1 (linesFault_zero c2)).1
            rw [hj _ (by omega) (by omega) hl, hj _ (by omega) (by omega) hl]
            by_cases e1 : l0_1 = []
            · by_cases e2 : l0_2 = []
              · rw [if_pos (by rw [e1]; rfl), if_pos (by rw [e2]; rfl), if_pos rfl, if_pos (.inl ⟨e1, e2⟩)]
              · have : ¬ ((l0_2.length : Int) = 0) := fun h => e2 (List.eq_nil_of_length_eq_zero (by omega))
                rw [if_pos (by rw [e1]; rfl), if_neg this]
                by_cases e3 : a0_0 < a1
                · rw [decide_eq_true e3, if_pos rfl, if_pos (.inr e3)]
                · rw [decide_eq_false e3, if_neg (by decide), if_neg (show ¬ ((l0_1 = [] ∧ l0_2 = []) ∨ a0_0 < a1) from fun h => h.elim (fun h => e2 h.2) e3)]
            · have : ¬ ((l0_1.length : Int) = 0) := fun h => e1 (List.eq_nil_of_length_eq_zero (by omega))
              rw [if_neg this]
              by_cases e3 : a0_0 < a1
              · rw [decide_eq_true e3, if_pos rfl, if_pos (.inr e3)]
              · rw [decide_eq_false e3, if_neg (by decide), if_neg (show ¬ ((l0_1 = [] ∧ l0_2 = []) ∨ a0_0 < a1) from fun h => h.elim (fun h => e1 h.1) e3)]
          · rw [if_neg c3, if_neg c3]
        · rw [if_neg c2, if_neg c2]
  exact (textpatch_hunkCode_0.calls (2) a0_0 A0_1 c0_1 l0_1 A0_2 c0_2 l0_2 a1 r w hr0_1 hc0_1 hr0_2 hc0_2 (h'))


end Go.Proofs.Ytdnnkhogpobjbaa.PZ
