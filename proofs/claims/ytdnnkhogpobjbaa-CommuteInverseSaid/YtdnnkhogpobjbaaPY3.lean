/- Printed by a program of this session out of the translation: Lean functions for Go functions, and proofs that the Go functions answer the same. -/
import Derived.Test.YtdnnkhogpobjbaaPY0
import Derived.Test.YtdnnkhogpobjbaaPY1
import Derived.Test.YtdnnkhogpobjbaaPY2
namespace Go.Proofs.Ytdnnkhogpobjbaa.PY
open Go.RowKit Go.Proofs.Ytdnnkhogpobjbaa.Pre Go.Proofs.YtdnnkhogpobjbaaW.PrintWords Go.Proofs.YtdnnkhogpobjbaaW.PrintLast Go.Proofs.YtdnnkhogpobjbaaW.PrintMore
attribute [local go_sem] max2_int min2_int max_two min_two max_three min_three max_four min_four   -- for this text's walks alone
set_option linter.unusedVariables false
set_option linter.unusedSimpArgs false

attribute [local go_sem high] eqA27
/-! ### changeforgeequal_Strings_0: function 21 -/
def changeforgeequal_Strings_0.l0 : Nat → List ByteArray → List ByteArray → Int → Option (Bool)
  | 0, _, _, _ => none
  | k + 1, x0, x1, x5 => if x5 < (x0.length : Int) then (if 0 ≤ x5 then (if x5 < (x1.length : Int) then (if (rdOf ByteArray.empty x0 x5).toList = (rdOf ByteArray.empty x1 x5).toList then (changeforgeequal_Strings_0.l0 k x0 x1 (wrap64 (x5 + 1))) else (some false)) else (none)) else (none)) else (some true)
def changeforgeequal_Strings_0.f (k : Nat) (l0 : List ByteArray) (l1 : List ByteArray) : Option (Bool) := if (l0.length : Int) = (l1.length : Int) then (changeforgeequal_Strings_0.l0 k l0 l1 0) else (some false)
theorem changeforgeequal_Strings_0.mono_l : ∀ k, (∀ y0 y1 y2, LeO (changeforgeequal_Strings_0.l0 k y0 y1 y2) (changeforgeequal_Strings_0.l0 (k + 1) y0 y1 y2))
  | 0 => fun _ _ _ r h => by simp [changeforgeequal_Strings_0.l0] at h
  | k + 1 => by
    have ih0 := changeforgeequal_Strings_0.mono_l k
    · intro y0 y1 y2
      unfold changeforgeequal_Strings_0.l0
      repeat' first
      | (with_reducible exact ih0 _ _ _)
      | (with_reducible exact LeO.refl _)
      | (with_reducible exact LeO.none _)
      | (with_reducible refine LeO.ite ?_ ?_)
      | (with_reducible refine LeO.bind ?_ (fun _ => ?_))
      | exact ih0 _ _ _
      | exact LeO.none _
      | refine LeO.ite ?_ ?_
      | refine LeO.bind ?_ (fun _ => ?_)
theorem changeforgeequal_Strings_0.mono : ∀ a0 a1 k, LeO (changeforgeequal_Strings_0.f k a0 a1) (changeforgeequal_Strings_0.f (k + 1) a0 a1) := by
  intro a0 a1 k
  have ih0 := changeforgeequal_Strings_0.mono_l k
  unfold changeforgeequal_Strings_0.f
  repeat' first
      | (with_reducible exact ih0 _ _ _)
      | (with_reducible exact LeO.refl _)
      | (with_reducible exact LeO.none _)
      | (with_reducible refine LeO.ite ?_ ?_)
      | (with_reducible refine LeO.bind ?_ (fun _ => ?_))
      | exact ih0 _ _ _
      | exact LeO.none _
      | refine LeO.ite ?_ ?_
      | refine LeO.bind ?_ (fun _ => ?_)
set_option maxHeartbeats 8000000 in
set_option maxRecDepth 100000 in
theorem changeforgeequal_Strings_0.calls (k : Nat) (A0 : Option Addr) (c0 : Nat) (l0 : List ByteArray) (A1 : Option Addr) (c1 : Nat) (l1 : List ByteArray) (r : Bool) (w : World) (hr0 : Kd.C Kd.string w A0 l0.length l0) (hc0 : l0.length ≤ c0) (hr1 : Kd.C Kd.string w A1 l1.length l1) (hc1 : l1.length ≤ c1) (h : changeforgeequal_Strings_0.f k l0 l1 = some r) :
    Calls Try.prog 21 #[.slice A0 l0.length c0, .slice A1 l1.length c1] w fun e w' => e = .returned (.bool r) ∧ Drawn0 w w' := by
  have HR0 := Aside0.mk hr0;have HC0 := Aside0.mk hc0;clear hr0 hc0;have HR1 := Aside0.mk hr1;have HC1 := Aside0.mk hc1;clear hr1 hc1;have H : (if (l0.length : Int) = (l1.length : Int) then (changeforgeequal_Strings_0.l0 k l0 l1 0) else (some false)) = some r := h;clear h
  by_cases c3 : (l0.length : Int) = (l1.length : Int)
  · rw [if_pos c3] at H;have c3b0 : ((l0.length : Int) == (l1.length : Int)) = true := beq_iff_eq.mpr c3;have c3b1 : ((l0.length : Int) != (l1.length : Int)) = false := bne_eq_false_iff_eq.mpr c3;have c3b2 : (l0.length == l1.length) = true := (by first|simpa using c3|(simp at c3 ⊢;omega));clear c3;have H' := Aside0.mk H;clear H
    go_enter Try.func21, Try.ntmps21
    go_wp2
    repeat (go_quiet (fail);try go_wp2)
    go_loopg [5] k (fun kq v5 w' => ∃ (x5_1 : Int), v5 = .int .i64 x5_1 ∧ Aside0 (changeforgeequal_Strings_0.l0 kq l0 l1 x5_1 = some r) ∧ Aside0 (kq ≤ k) ∧ Drawn0 w w')
    case atStart => exact ⟨(0), (by first|rfl|(simp only [i64_w, i32_w];done)|(simp only [i64_w, i32_w];rfl)|(simp;done)|(simp [*];done)), H', ⟨Nat.le_refl _⟩, by repeat (first|exact Drawn0.refl _|apply Drawn0.step)⟩
    case round =>
      clear H'
      try clear c1
      try clear c2
      try clear p2
      try clear c3
      try clear c3b0
      try clear c3b1
      try clear c3b2
      obtain ⟨x5_1, rfl, HA, HK1, ⟨m1, rfl⟩⟩ := hrel
      cases gk with
      | zero => exact absurd HA.out (by simp [changeforgeequal_Strings_0.l0])
      | succ k1 =>
        have H := HA.out;clear HA;simp only [changeforgeequal_Strings_0.l0] at H
        by_cases c4 : x5_1 < (l0.length : Int)
        · rw [if_pos c4] at H;have c4b0 : decide (x5_1 < (l0.length : Int)) = true := decide_eq_true c4;clear c4
          by_cases c5 : 0 ≤ x5_1
          · rw [if_pos c5] at H;have c5b0 : decide (0 ≤ x5_1) = true := decide_eq_true c5;clear c5
            by_cases c6 : x5_1 < (l1.length : Int)
            · rw [if_pos c6] at H;have c6b0 : decide (x5_1 < (l1.length : Int)) = true := decide_eq_true c6;clear c6
              by_cases c7 : (rdOf ByteArray.empty l0 x5_1).toList = (rdOf ByteArray.empty l1 x5_1).toList
              · rw [if_pos c7] at H;have c7b0 : ((rdOf ByteArray.empty l0 x5_1).toList == (rdOf ByteArray.empty l1 x5_1).toList) = true := beq_iff_eq.mpr c7;have c7b1 : ((rdOf ByteArray.empty l0 x5_1).toList != (rdOf ByteArray.empty l1 x5_1).toList) = false := bne_eq_false_iff_eq.mpr c7;clear c7;have H' := Aside0.mk H;clear H;have p147 : 0 ≤ (x5_1 : Int) := dA;have q147 : x5_1 < (l0.length : Int) := dA;obtain ⟨ad147, e147, hx147_0⟩ := Kd.at_string HR0.out x5_1 p147 q147
                cases e147
                replace p147 := eq_true p147;replace q147 := eq_true q147;have p148 : 0 ≤ (x5_1 : Int) := dA;have q148 : x5_1 < (l1.length : Int) := dA;obtain ⟨ad148, e148, hx148_0⟩ := Kd.at_string HR1.out x5_1 p148 q148
                cases e148
                replace p148 := eq_true p148;replace q148 := eq_true q148
                go_wp2
                repeat (go_quiet (fail);try go_wp2)
                go_roundg k1
                case measure => have := HK1.out;omega
                case rel => exact ⟨(wrap64 (x5_1 + 1)), (by first|rfl|(simp only [i64_w, i32_w];done)|(simp only [i64_w, i32_w];rfl)|(simp;done)|(simp [*];done)), H', ⟨by have := HK1.out;omega⟩, by repeat (first|exact Drawn0.refl _|apply Drawn0.step)⟩
              · rw [if_neg c7] at H;have c7b0 : ((rdOf ByteArray.empty l0 x5_1).toList == (rdOf ByteArray.empty l1 x5_1).toList) = false := beq_eq_false_iff_ne.mpr c7;have c7b1 : ((rdOf ByteArray.empty l0 x5_1).toList != (rdOf ByteArray.empty l1 x5_1).toList) = true := bne_iff_ne.mpr c7;obtain rfl := Option.some.inj H;have p147 : 0 ≤ (x5_1 : Int) := dA;have q147 : x5_1 < (l0.length : Int) := dA;obtain ⟨ad147, e147, hx147_0⟩ := Kd.at_string HR0.out x5_1 p147 q147
                cases e147
                replace p147 := eq_true p147;replace q147 := eq_true q147;have p148 : 0 ≤ (x5_1 : Int) := dA;have q148 : x5_1 < (l1.length : Int) := dA;obtain ⟨ad148, e148, hx148_0⟩ := Kd.at_string HR1.out x5_1 p148 q148
                cases e148
                replace p148 := eq_true p148;replace q148 := eq_true q148
                go_wp2
                repeat (go_quiet (fail);try go_wp2)
                go_ret
                exact ⟨by first|rfl|(simp;done)|(simp [*];done), by repeat (first|exact Drawn0.refl _|apply Drawn0.step)⟩
            · rw [if_neg c6] at H;exact absurd H (by simp)
          · rw [if_neg c5] at H;exact absurd H (by simp)
        · rw [if_neg c4] at H;have c4b0 : decide (x5_1 < (l0.length : Int)) = false := decide_eq_false c4;clear c4;obtain rfl := Option.some.inj H
          go_wp2
          repeat (go_quiet (fail);try go_wp2)
          go_ret
          exact ⟨by first|rfl|(simp;done)|(simp [*];done), by repeat (first|exact Drawn0.refl _|apply Drawn0.step)⟩
  · rw [if_neg c3] at H;have c3b0 : ((l0.length : Int) == (l1.length : Int)) = false := beq_eq_false_iff_ne.mpr c3;have c3b1 : ((l0.length : Int) != (l1.length : Int)) = true := bne_iff_ne.mpr c3;have c3b2 : (l0.length == l1.length) = false := (by first|simpa using c3|(simp at c3 ⊢;omega));obtain rfl := Option.some.inj H
    go_enter Try.func21, Try.ntmps21
    go_wp2
    repeat (go_quiet (fail);try go_wp2)
    go_ret
    exact ⟨by first|rfl|(simp;done)|(simp [*];done), by repeat (first|exact Drawn0.refl _|apply Drawn0.step)⟩

/-! ### changeforgeequal_Strings: function 21 -/
theorem changeforgeequal_Strings_0.loop (a b : List ByteArray) (hl : a.length = b.length) (hm : a.length ≤ 9223372036854775807) (d : Nat) : ∀ (k i : Nat), i ≤ a.length → a.length - i = d → d < k →
    changeforgeequal_Strings_0.l0 k a b (i : Int) = some (decide (a.drop i = b.drop i)) := by
  induction d with
  | zero =>
    intro k i hi hd hk
    obtain ⟨k, rfl⟩ : ∃ m, k = m + 1 := ⟨k - 1, by omega⟩
    simp only [changeforgeequal_Strings_0.l0]
    rw [if_neg (by omega), List.drop_eq_nil_of_le (by omega), List.drop_eq_nil_of_le (by omega)]
    rfl
  | succ d ih =>
    intro k i hi hd hk
    obtain ⟨k, rfl⟩ : ∃ m, k = m + 1 := ⟨k - 1, by omega⟩
    rw [rdOf_drop ByteArray.empty a i (by omega), rdOf_drop ByteArray.empty b i (by omega)]
    simp only [changeforgeequal_Strings_0.l0]
    rw [if_pos (by omega), if_pos (by omega), if_pos (by omega)]
    by_cases e : rdOf ByteArray.empty a (i : Int) = rdOf ByteArray.empty b (i : Int)
    · rw [if_pos (toList_inj.mpr e), w64 (by omega) (by omega)]
      have := ih k (i + 1) (by omega) (by omega) (by omega)
      rw [Int.natCast_add] at this
      rw [show (((1 : Nat) : Int)) = 1 from rfl] at this
      rw [this, e]
      simp
    · rw [if_neg (fun h => e (toList_inj.mp h))]
      simp [e]
def changeforgeequal_Strings.f (l0 : List ByteArray) (l1 : List ByteArray) : Option (Bool) :=  some (decide (l0 = l1))
theorem changeforgeequal_Strings.calls (A0 : Option Addr) (c0 : Nat) (l0 : List ByteArray) (A1 : Option Addr) (c1 : Nat) (l1 : List ByteArray) (r : Bool) (w : World) (hr0 : Kd.C Kd.string w A0 l0.length l0) (hc0 : l0.length ≤ c0) (hr1 : Kd.C Kd.string w A1 l1.length l1) (hc1 : l1.length ≤ c1) (h : changeforgeequal_Strings.f l0 l1 = some r) :
    Calls Try.prog 21 #[.slice A0 l0.length c0, .slice A1 l1.length c1] w fun e w' => e = .returned (.bool r) ∧ Drawn0 w w' := by
  have hm : l0.length ≤ 9223372036854775807 := hr0.2.1
  have h' : changeforgeequal_Strings_0.f (l0.length + 1) l0 l1 = some r := by
    rw [← h]
    unfold changeforgeequal_Strings_0.f changeforgeequal_Strings.f
    by_cases c : l0.length = l1.length
    · rw [if_pos (by omega)]
      have := changeforgeequal_Strings_0.loop l0 l1 c hm l0.length (l0.length + 1) 0 (by omega) (by omega) (by omega)
      simpa using this
    · rw [if_neg (by omega)]
      have : ¬ l0 = l1 := fun e => c (by rw [e])
      simp [this]
  exact (changeforgeequal_Strings_0.calls (l0.length + 1) A0 c0 l0 A1 c1 l1 r w hr0 hc0 hr1 hc1 (h'))


/-! ### changeforgeequal_Patch: function 22 -/
mutual
def changeforgeequal_Patch.l0 : Nat → Int → List (S47) → List (S47) → Option (Bool)
  | 0, _, _, _ => none
  | k + 1, x5, x150000, x151000 => if x5 < (x150000.length : Int) then (if 0 ≤ x5 then (if x5 < (x151000.length : Int) then (if ((rd_T47 x150000 x5).f0) = ((rd_T47 x151000 x5).f0) then ((changeforgeequal_Strings.f ((rd_T47 x150000 x5).f1) ((rd_T47 x151000 x5).f1)).bind fun t155 => (if t155 = true then ((changeforgeequal_Strings.f ((rd_T47 x150000 x5).f2) ((rd_T47 x151000 x5).f2)).bind fun t158 => (changeforgeequal_Patch.j1 k x5 (!t158) x150000 x151000)) else (changeforgeequal_Patch.j1 k x5 true x150000 x151000))) else (changeforgeequal_Patch.j1 k x5 true x150000 x151000)) else (none)) else (none)) else (some true)
def changeforgeequal_Patch.j1 : Nat → Int → Bool → List (S47) → List (S47) → Option (Bool)
  | 0, _, _, _, _ => none
  | k + 1, x5, x64, x150000, x151000 => if x64 = true then (some false) else (changeforgeequal_Patch.l0 k (wrap64 (x5 + 1)) x150000 x151000)
end
def changeforgeequal_Patch.f (k : Nat) (l0_0 : List (S47)) (l1_0 : List (S47)) : Option (Bool) := if (l0_0.length : Int) = (l1_0.length : Int) then (changeforgeequal_Patch.l0 k 0 l0_0 l1_0) else (some false)
theorem changeforgeequal_Patch.mono_l : ∀ k, (∀ y0 y1 y2, LeO (changeforgeequal_Patch.l0 k y0 y1 y2) (changeforgeequal_Patch.l0 (k + 1) y0 y1 y2)) ∧ (∀ y0 y1 y2 y3, LeO (changeforgeequal_Patch.j1 k y0 y1 y2 y3) (changeforgeequal_Patch.j1 (k + 1) y0 y1 y2 y3))
  | 0 => ⟨fun _ _ _ r h => by simp [changeforgeequal_Patch.l0] at h, fun _ _ _ _ r h => by simp [changeforgeequal_Patch.j1] at h⟩
  | k + 1 => by
    obtain ⟨ih0, ih1⟩ := changeforgeequal_Patch.mono_l k;refine ⟨?_, ?_⟩
    · intro y0 y1 y2
      unfold changeforgeequal_Patch.l0
      repeat' first
      | (with_reducible exact ih0 _ _ _)
      | (with_reducible exact ih1 _ _ _ _)
      | (with_reducible exact LeO.refl _)
      | (with_reducible exact LeO.none _)
      | (with_reducible refine LeO.ite ?_ ?_)
      | (with_reducible refine LeO.bind ?_ (fun _ => ?_))
      | exact ih0 _ _ _
      | exact ih1 _ _ _ _
      | exact LeO.none _
      | refine LeO.ite ?_ ?_
      | refine LeO.bind ?_ (fun _ => ?_)
    · intro y0 y1 y2 y3
      unfold changeforgeequal_Patch.j1
      repeat' first
      | (with_reducible exact ih0 _ _ _)
      | (with_reducible exact ih1 _ _ _ _)
      | (with_reducible exact LeO.refl _)
      | (with_reducible exact LeO.none _)
      | (with_reducible refine LeO.ite ?_ ?_)
      | (with_reducible refine LeO.bind ?_ (fun _ => ?_))
      | exact ih0 _ _ _
      | exact ih1 _ _ _ _
      | exact LeO.none _
      | refine LeO.ite ?_ ?_
      | refine LeO.bind ?_ (fun _ => ?_)
theorem changeforgeequal_Patch.mono : ∀ a0 a1 k, LeO (changeforgeequal_Patch.f k a0 a1) (changeforgeequal_Patch.f (k + 1) a0 a1) := by
  intro a0 a1 k
  obtain ⟨ih0, ih1⟩ := changeforgeequal_Patch.mono_l k
  unfold changeforgeequal_Patch.f
  repeat' first
      | (with_reducible exact ih0 _ _ _)
      | (with_reducible exact ih1 _ _ _ _)
      | (with_reducible exact LeO.refl _)
      | (with_reducible exact LeO.none _)
      | (with_reducible refine LeO.ite ?_ ?_)
      | (with_reducible refine LeO.bind ?_ (fun _ => ?_))
      | exact ih0 _ _ _
      | exact ih1 _ _ _ _
      | exact LeO.none _
      | refine LeO.ite ?_ ?_
      | refine LeO.bind ?_ (fun _ => ?_)
def changeforgeequal_Patch.T6 : Bool × List (List Nat × List Nat) := (true, [([], []), ([0], [0]), ([], []), ([1, 2], [1, 2]), ([3], [3]), ([4], [4]), ([], []), ([6], [6]), ([], []), ([7, 8], [7, 8]), ([9], [9]), ([10], [10]), ([5, 11], [5, 11]), ([12], [12]), ([13], [13]), ([14, 13], [13, 14]), ([13], [13]), ([15, 16, 13], [13, 15, 16]), ([17, 13], [13, 17]), ([18, 13], [13, 18]), ([13], [13]), ([20, 13], [13, 20]), ([13], [13]), ([21, 22, 13], [13, 21, 22]), ([23, 13], [13, 23]), ([24, 13], [13, 24]), ([19, 25, 13, 13], [13, 19, 25]), ([26, 13], [13, 26]), ([13, 27], [13, 27]), ([28, 26], [28]), ([29], [29]), ([30, 29], [29, 30]), ([29], [29]), ([31, 32, 29], [29, 31, 32]), ([33, 29], [29, 33]), ([34, 29], [29, 34]), ([29], [29]), ([36, 29], [29, 36]), ([29], [29]), ([37, 38, 29], [29, 37, 38]), ([39, 29], [29, 39]), ([40, 29], [29, 40]), ([35, 41, 29, 29], [29, 35, 41]), ([42, 29], [29, 42]), ([29, 43], [29, 43])])
def changeforgeequal_Patch.B6 : List Nat := [0, 1, 0, 7, 15, 31, 0, 64, 0, 448, 960, 1984, 4095, 8191, 16383, 32767, 16383, 131071, 262143, 524287, 16383, 1064959, 16383, 7356415, 15745023, 32522239, 67108863, 134217727, 268435455, 536870911, 1073741823, 2147483647, 1073741823, 8589934591, 17179869183, 34359738367, 1073741823, 69793218559, 1073741823, 482110078975, 1031865892863, 2131377520639, 4398046511103, 8796093022207, 17592186044415]
theorem changeforgeequal_Patch.tab6 : rtab .any (opsOf Try.f22 6) = changeforgeequal_Patch.T6 := by kernel_rfl
theorem changeforgeequal_Patch.bits6 : waitsOk changeforgeequal_Patch.T6.2 changeforgeequal_Patch.B6 = true := by kernel_rfl
set_option maxHeartbeats 8000000 in
set_option maxRecDepth 100000 in
theorem changeforgeequal_Patch.calls (k : Nat) (A0_0 : Option Addr) (c0_0 : Nat) (l0_0 : List (S47)) (A1_0 : Option Addr) (c1_0 : Nat) (l1_0 : List (S47)) (r : Bool) (w : World) (hr0_0 : Kd.C k47 w A0_0 l0_0.length l0_0) (hc0_0 : l0_0.length ≤ c0_0) (hr1_0 : Kd.C k47 w A1_0 l1_0.length l1_0) (hc1_0 : l1_0.length ≤ c1_0) (h : changeforgeequal_Patch.f k l0_0 l1_0 = some r) :
    Calls Try.prog 22 #[.agg #[.slice A0_0 l0_0.length c0_0], .agg #[.slice A1_0 l1_0.length c1_0]] w fun e w' => e = .returned (.bool r) ∧ Below w.heap.size w w' := by
  have hu24 := Try.underlying24;have HR0_0 := Aside0.mk hr0_0;have HC0_0 := Aside0.mk hc0_0;clear hr0_0 hc0_0;have HR1_0 := Aside0.mk hr1_0;have HC1_0 := Aside0.mk hc1_0;clear hr1_0 hc1_0;have HB := Aside0.mk (Below.refl w.heap.size w);have H : (if (l0_0.length : Int) = (l1_0.length : Int) then (changeforgeequal_Patch.l0 k 0 l0_0 l1_0) else (some false)) = some r := h;clear h
  by_cases c3 : (l0_0.length : Int) = (l1_0.length : Int)
  · rw [if_pos c3] at H;have c3b0 : ((l0_0.length : Int) == (l1_0.length : Int)) = true := beq_iff_eq.mpr c3;have c3b1 : ((l0_0.length : Int) != (l1_0.length : Int)) = false := bne_eq_false_iff_eq.mpr c3;have c3b2 : (l0_0.length == l1_0.length) = true := (by first|simpa using c3|(simp at c3 ⊢;omega));clear c3;have H' := Aside0.mk H;clear H
    go_enter Try.func22, Try.ntmps22
    go_wp2_with (first|((with_reducible refine gate_dst (N := 2) rfl ?_);refine bE 2 #[.slice A0_0 l0_0.length c0_0] 24 ?_;intro gb149 hg w4 hbox hb;have BK149 := Aside0.mk (hbox);have GW149 := gBe HB hg;have GE149 := gBe HB hg;replace HB := sBe HB hb;clear hb hbox hg)|((with_reducible refine gate_dst (N := 3) rfl ?_);refine bE 3 #[.slice A1_0 l1_0.length c1_0] 24 ?_;intro gb150 hg w5 hbox hb;have BK150 := Aside0.mk (hbox);have GW150 := gBe HB hg;have GE150 := gBe HB hg;have NB149_150 := nL BK149 hg;have NB150_149 := nG BK149 hg;replace BK149 := lJ BK149 hb;replace HB := sBe HB hb;clear hb hbox hg;have hnb6 := NB149_150.out;have hnc6 := NB150_149.out;have hcz7_0 := hC BK149 0 (.slice A0_0 l0_0.length c0_0);have hfz7_0 := blk_frozen BK149.out 0;have hcz8_0 := hC BK150 0 (.slice A1_0 l1_0.length c1_0);have hfz8_0 := blk_frozen BK150.out 0))
    go_loopg [5] k (fun kq v5 w' => ∃ (x5_1 : Int), v5 = .int .i64 x5_1 ∧ Aside0 (changeforgeequal_Patch.l0 kq x5_1 l0_0 l1_0 = some r) ∧ Aside0 (kq ≤ k) ∧ Bk w' gb149 24 #[(.slice A0_0 l0_0.length c0_0)] ∧ Bk w' gb150 24 #[(.slice A1_0 l1_0.length c1_0)] ∧ Aside0 (Below w.heap.size w w'))
    case atStart => exact ⟨(0), (by first|rfl|(simp only [i64_w, i32_w];done)|(simp only [i64_w, i32_w];rfl)|(simp;done)|(simp [*];done)), H', ⟨Nat.le_refl _⟩, ⟨kK⟩, ⟨kK⟩, ⟨eB⟩⟩
    case round =>
      clear H'
      try clear c1
      try clear c2
      try clear p2
      try clear c3
      try clear c3b0
      try clear c3b1
      try clear c3b2
      try clear c6
      try clear hcz7_0
      try clear hcz8_0
      try clear hfz7_0
      try clear hfz8_0
      obtain ⟨x5_1, rfl, HA, HK1, BK149, BK150, HB⟩ := hrel
      cases gk with
      | zero => exact absurd HA.out (by simp [changeforgeequal_Patch.l0])
      | succ k1 =>
        have H := HA.out;clear HA;simp only [changeforgeequal_Patch.l0] at H
        by_cases c9 : x5_1 < (l0_0.length : Int)
        · rw [if_pos c9] at H;have c9b0 : decide (x5_1 < (l0_0.length : Int)) = true := decide_eq_true c9;clear c9;have HC10 := Aside0.mk H;clear H;have hnb11 := NB149_150.out;have hnc11 := NB150_149.out;have hcz12_0 : wr.cell? ⟨gb149, 0, none⟩ = some (.slice A0_0 l0_0.length c0_0) := (blk_cell BK149.out 0).trans rfl;have hfz12_0 := blk_frozen BK149.out 0
          go_upto_region 6 with (fail)
          go_cut [64] (fun v64 wc => ∃ (kq : Nat) (x64_9 : Bool), v64 = .bool x64_9 ∧ Aside0 (changeforgeequal_Patch.j1 kq x5_1 x64_9 l0_0 l1_0 = some r) ∧ Aside0 (kq ≤ k1) ∧ Aside0 (wc.heap[gb149]? = some (.cells #[(.slice A0_0 l0_0.length c0_0)] 24 (0, 0))) ∧ Aside0 (wc.heap[gb150]? = some (.cells #[(.slice A1_0 l1_0.length c1_0)] 24 (0, 0))) ∧ Aside0 (Below w.heap.size w wc))
          case first =>
            have H := HC10.out;clear HC10
            by_cases c13 : 0 ≤ x5_1
            · rw [if_pos c13] at H;have c13b0 : decide (0 ≤ x5_1) = true := decide_eq_true c13;clear c13
              (first|rw [c13b0]|(simp only [i64_w, i32_w];rw [c13b0])|skip)
              by_cases c14 : x5_1 < (l1_0.length : Int)
              · rw [if_pos c14] at H;have c14b0 : decide (x5_1 < (l1_0.length : Int)) = true := decide_eq_true c14;clear c14
                by_cases c15 : ((rd_T47 l0_0 x5_1).f0) = ((rd_T47 l1_0 x5_1).f0)
                · rw [if_pos c15] at H;have c15b0 : (((rd_T47 l0_0 x5_1).f0) == ((rd_T47 l1_0 x5_1).f0)) = true := beq_iff_eq.mpr c15;have c15b1 : (((rd_T47 l0_0 x5_1).f0) != ((rd_T47 l1_0 x5_1).f0)) = false := bne_eq_false_iff_eq.mpr c15;clear c15;replace H := Option.bind_eq_some_iff.mp H;obtain ⟨t155, A160, H⟩ := H;replace H : (if t155 = true then ((changeforgeequal_Strings.f ((rd_T47 l0_0 x5_1).f2) ((rd_T47 l1_0 x5_1).f2)).bind fun t158 => (changeforgeequal_Patch.j1 k1 x5_1 (!t158) l0_0 l1_0)) else (changeforgeequal_Patch.j1 k1 x5_1 true l0_0 l1_0)) = some r := H;have A16 := Aside0.mk A160;clear A160
                  by_cases c17 : t155 = true
                  · subst c17;have H1 : ((changeforgeequal_Strings.f ((rd_T47 l0_0 x5_1).f2) ((rd_T47 l1_0 x5_1).f2)).bind fun t158 => (changeforgeequal_Patch.j1 k1 x5_1 (!t158) l0_0 l1_0)) = some r := (by rw [if_pos rfl] at H;exact H);clear H;have H := H1;clear H1;replace H := Option.bind_eq_some_iff.mp H;obtain ⟨t158, A180, H⟩ := H;replace H : (changeforgeequal_Patch.j1 k1 x5_1 (!t158) l0_0 l1_0) = some r := H;have A18 := Aside0.mk A180;clear A180;have H' := Aside0.mk H;clear H
                    try go_wp2
                    replace BK149 := Aside0.mk (blk_drew BK149.out);replace BK150 := Aside0.mk (blk_drew BK150.out);replace HB := Aside0.mk (below_drew1 HB.out);have p151 : 0 ≤ (x5_1 : Int) := dA;have q151 : x5_1 < (l0_0.length : Int) := dA;obtain ⟨ad151, A151_1, c151_1, A151_2, c151_2, e151, hx151_0, hx151_1, hx151_2, hl151_1, hi151_1, hl151_2, hi151_2⟩ := at_T47 HR0_0.out x5_1 p151 q151;have hw151_2 := hx151_2;have hw151_1 := hx151_1;have hw151_0 := hx151_0
                    cases e151
                    replace hx151_0 := (hX HB hx151_0:);replace hx151_1 := (hX HB hx151_1:);replace hx151_2 := (hX HB hx151_2:);have HR151_1 := Aside0.mk hi151_1;have HC151_1 := Aside0.mk hl151_1;clear hi151_1 hl151_1;have HR151_2 := Aside0.mk hi151_2;have HC151_2 := Aside0.mk hl151_2;clear hi151_2 hl151_2;replace p151 := eq_true p151;replace q151 := eq_true q151;have p152 : 0 ≤ (x5_1 : Int) := dA;have q152 : x5_1 < (l1_0.length : Int) := dA;obtain ⟨ad152, A152_1, c152_1, A152_2, c152_2, e152, hx152_0, hx152_1, hx152_2, hl152_1, hi152_1, hl152_2, hi152_2⟩ := at_T47 HR1_0.out x5_1 p152 q152;have hw152_2 := hx152_2;have hw152_1 := hx152_1;have hw152_0 := hx152_0
                    cases e152
                    replace hx152_0 := (hX HB hx152_0:);replace hx152_1 := (hX HB hx152_1:);replace hx152_2 := (hX HB hx152_2:);have HR152_1 := Aside0.mk hi152_1;have HC152_1 := Aside0.mk hl152_1;clear hi152_1 hl152_1;have HR152_2 := Aside0.mk hi152_2;have HC152_2 := Aside0.mk hl152_2;clear hi152_2 hl152_2;replace p152 := eq_true p152;replace q152 := eq_true q152;have p153 : 0 ≤ (x5_1 : Int) := dA;have q153 : x5_1 < (l0_0.length : Int) := dA;obtain ⟨ad153, A153_1, c153_1, A153_2, c153_2, e153, hx153_0, hx153_1, hx153_2, hl153_1, hi153_1, hl153_2, hi153_2⟩ := at_T47 HR0_0.out x5_1 p153 q153;have hw153_2 := hx153_2;have hw153_1 := hx153_1;have hw153_0 := hx153_0;obtain rfl : ad151 = ad153 := (by injection e153);replace hx153_0 := (hX HB hx153_0:);replace hx153_1 := (hX HB hx153_1:);replace hx153_2 := (hX HB hx153_2:);have HR153_1 := Aside0.mk hi153_1;have HC153_1 := Aside0.mk hl153_1;clear hi153_1 hl153_1;have HR153_2 := Aside0.mk hi153_2;have HC153_2 := Aside0.mk hl153_2;clear hi153_2 hl153_2;replace p153 := eq_true p153;replace q153 := eq_true q153;have ea_ := Option.some.inj (hx151_1.symm.trans hx153_1);injection ea_ with ea_ en_ ec_;subst ea_;subst ec_;clear en_;have ea_ := Option.some.inj (hx151_2.symm.trans hx153_2);injection ea_ with ea_ en_ ec_;subst ea_;subst ec_;clear en_;have p154 : 0 ≤ (x5_1 : Int) := dA;have q154 : x5_1 < (l1_0.length : Int) := dA;obtain ⟨ad154, A154_1, c154_1, A154_2, c154_2, e154, hx154_0, hx154_1, hx154_2, hl154_1, hi154_1, hl154_2, hi154_2⟩ := at_T47 HR1_0.out x5_1 p154 q154;have hw154_2 := hx154_2;have hw154_1 := hx154_1;have hw154_0 := hx154_0;obtain rfl : ad152 = ad154 := (by injection e154);replace hx154_0 := (hX HB hx154_0:);replace hx154_1 := (hX HB hx154_1:);replace hx154_2 := (hX HB hx154_2:);have HR154_1 := Aside0.mk hi154_1;have HC154_1 := Aside0.mk hl154_1;clear hi154_1 hl154_1;have HR154_2 := Aside0.mk hi154_2;have HC154_2 := Aside0.mk hl154_2;clear hi154_2 hl154_2;replace p154 := eq_true p154;replace q154 := eq_true q154;have ea_ := Option.some.inj (hx152_1.symm.trans hx154_1);injection ea_ with ea_ en_ ec_;subst ea_;subst ec_;clear en_;have ea_ := Option.some.inj (hx152_2.symm.trans hx154_2);injection ea_ with ea_ en_ ec_;subst ea_;subst ec_;clear en_;have p156 : 0 ≤ (x5_1 : Int) := dA;have q156 : x5_1 < (l0_0.length : Int) := dA;obtain ⟨ad156, A156_1, c156_1, A156_2, c156_2, e156, hx156_0, hx156_1, hx156_2, hl156_1, hi156_1, hl156_2, hi156_2⟩ := at_T47 HR0_0.out x5_1 p156 q156;have hw156_2 := hx156_2;have hw156_1 := hx156_1;have hw156_0 := hx156_0;obtain rfl : ad151 = ad156 := (by injection e156);replace hx156_0 := (hX HB hx156_0:);replace hx156_1 := (hX HB hx156_1:);replace hx156_2 := (hX HB hx156_2:);have HR156_1 := Aside0.mk hi156_1;have HC156_1 := Aside0.mk hl156_1;clear hi156_1 hl156_1;have HR156_2 := Aside0.mk hi156_2;have HC156_2 := Aside0.mk hl156_2;clear hi156_2 hl156_2;replace p156 := eq_true p156;replace q156 := eq_true q156;have ea_ := Option.some.inj (hx151_1.symm.trans hx156_1);injection ea_ with ea_ en_ ec_;subst ea_;subst ec_;clear en_;have ea_ := Option.some.inj (hx151_2.symm.trans hx156_2);injection ea_ with ea_ en_ ec_;subst ea_;subst ec_;clear en_;have p157 : 0 ≤ (x5_1 : Int) := dA;have q157 : x5_1 < (l1_0.length : Int) := dA;obtain ⟨ad157, A157_1, c157_1, A157_2, c157_2, e157, hx157_0, hx157_1, hx157_2, hl157_1, hi157_1, hl157_2, hi157_2⟩ := at_T47 HR1_0.out x5_1 p157 q157;have hw157_2 := hx157_2;have hw157_1 := hx157_1;have hw157_0 := hx157_0;obtain rfl : ad152 = ad157 := (by injection e157);replace hx157_0 := (hX HB hx157_0:);replace hx157_1 := (hX HB hx157_1:);replace hx157_2 := (hX HB hx157_2:);have HR157_1 := Aside0.mk hi157_1;have HC157_1 := Aside0.mk hl157_1;clear hi157_1 hl157_1;have HR157_2 := Aside0.mk hi157_2;have HC157_2 := Aside0.mk hl157_2;clear hi157_2 hl157_2;replace p157 := eq_true p157;replace q157 := eq_true q157;have ea_ := Option.some.inj (hx152_1.symm.trans hx157_1);injection ea_ with ea_ en_ ec_;subst ea_;subst ec_;clear en_;have ea_ := Option.some.inj (hx152_2.symm.trans hx157_2);injection ea_ with ea_ en_ ec_;subst ea_;subst ec_;clear en_;refine start_ (n := 45) (S := fun w' => w'.cell? ⟨gb149, 0, none⟩ = some (.slice (some ad151) l0_0.length c0_0) ∧ w'.cell? ⟨gb150, 0, none⟩ = some (.slice (some ad152) l1_0.length c1_0) ∧ w'.cell? (ad151.add ((x5_1).toNat * 3)) = some (.int .i64 ((rd_T47 l0_0 x5_1).f0)) ∧ w'.cell? ⟨(ad151.add ((x5_1).toNat * 3)).block, (ad151.add ((x5_1).toNat * 3)).off + 1, none⟩ = some (.slice A151_1 ((rd_T47 l0_0 x5_1).f1).length c151_1) ∧ w'.cell? ⟨(ad151.add ((x5_1).toNat * 3)).block, (ad151.add ((x5_1).toNat * 3)).off + 2, none⟩ = some (.slice A151_2 ((rd_T47 l0_0 x5_1).f2).length c151_2) ∧ w'.cell? (ad152.add ((x5_1).toNat * 3)) = some (.int .i64 ((rd_T47 l1_0 x5_1).f0)) ∧ w'.cell? ⟨(ad152.add ((x5_1).toNat * 3)).block, (ad152.add ((x5_1).toNat * 3)).off + 1, none⟩ = some (.slice A152_1 ((rd_T47 l1_0 x5_1).f1).length c152_1) ∧ w'.cell? ⟨(ad152.add ((x5_1).toNat * 3)).block, (ad152.add ((x5_1).toNat * 3)).off + 2, none⟩ = some (.slice A152_2 ((rd_T47 l1_0 x5_1).f2).length c152_2) ∧ w'.cell? (ad151.add ((x5_1).toNat * 3)) = some (.int .i64 ((rd_T47 l0_0 x5_1).f0)) ∧ w'.cell? ⟨(ad151.add ((x5_1).toNat * 3)).block, (ad151.add ((x5_1).toNat * 3)).off + 1, none⟩ = some (.slice A151_1 ((rd_T47 l0_0 x5_1).f1).length c151_1) ∧ w'.cell? ⟨(ad151.add ((x5_1).toNat * 3)).block, (ad151.add ((x5_1).toNat * 3)).off + 2, none⟩ = some (.slice A151_2 ((rd_T47 l0_0 x5_1).f2).length c151_2) ∧ w'.cell? (ad152.add ((x5_1).toNat * 3)) = some (.int .i64 ((rd_T47 l1_0 x5_1).f0)) ∧ w'.cell? ⟨(ad152.add ((x5_1).toNat * 3)).block, (ad152.add ((x5_1).toNat * 3)).off + 1, none⟩ = some (.slice A152_1 ((rd_T47 l1_0 x5_1).f1).length c152_1) ∧ w'.cell? ⟨(ad152.add ((x5_1).toNat * 3)).block, (ad152.add ((x5_1).toNat * 3)).off + 2, none⟩ = some (.slice A152_2 ((rd_T47 l1_0 x5_1).f2).length c152_2) ∧ w'.cell? (ad151.add ((x5_1).toNat * 3)) = some (.int .i64 ((rd_T47 l0_0 x5_1).f0)) ∧ w'.cell? ⟨(ad151.add ((x5_1).toNat * 3)).block, (ad151.add ((x5_1).toNat * 3)).off + 1, none⟩ = some (.slice A151_1 ((rd_T47 l0_0 x5_1).f1).length c151_1) ∧ w'.cell? ⟨(ad151.add ((x5_1).toNat * 3)).block, (ad151.add ((x5_1).toNat * 3)).off + 2, none⟩ = some (.slice A151_2 ((rd_T47 l0_0 x5_1).f2).length c151_2) ∧ w'.cell? (ad152.add ((x5_1).toNat * 3)) = some (.int .i64 ((rd_T47 l1_0 x5_1).f0)) ∧ w'.cell? ⟨(ad152.add ((x5_1).toNat * 3)).block, (ad152.add ((x5_1).toNat * 3)).off + 1, none⟩ = some (.slice A152_1 ((rd_T47 l1_0 x5_1).f1).length c152_1) ∧ w'.cell? ⟨(ad152.add ((x5_1).toNat * 3)).block, (ad152.add ((x5_1).toNat * 3)).off + 2, none⟩ = some (.slice A152_2 ((rd_T47 l1_0 x5_1).f2).length c152_2)) (ds := []) (mb 45 0) (by kernel_rfl) rfl (by kernel_rfl) ⟨(blk_cell BK149.out 0).trans rfl, (blk_cell BK150.out 0).trans rfl, (hX HB hw151_0:), (hX HB hw151_1:), (hX HB hw151_2:), (hX HB hw152_0:), (hX HB hw152_1:), (hX HB hw152_2:), (hX HB hw153_0:), (hX HB hw153_1:), (hX HB hw153_2:), (hX HB hw154_0:), (hX HB hw154_1:), (hX HB hw154_2:), (hX HB hw156_0:), (hX HB hw156_1:), (hX HB hw156_2:), (hX HB hw157_0:), (hX HB hw157_1:), (hX HB hw157_2:)⟩ (fun hHeld => ?_);refine with_tabW changeforgeequal_Patch.tab6 changeforgeequal_Patch.bits6 (fun HT_ HW_ => ?_);generalize wr.drew = w19 at BK149 BK150 HB HR151_1 HR151_2 HR152_1 HR152_2 HR153_1 HR153_2 HR154_1 HR154_2 HR156_1 HR156_2 HR157_1 HR157_2 hx151_0 hx151_1 hx151_2 hx152_0 hx152_1 hx152_2 hx153_0 hx153_1 hx153_2 hx154_0 hx154_1 hx154_2 hx156_0 hx156_1 hx156_2 hx157_0 hx157_1 hx157_2 hHeld ⊢;refine pA 0 20 (mb 45 1) HT_ rfl rfl ?_;refine pA 2 22 (mb 45 5) HT_ rfl rfl ?_;refine pA 6 26 (mb 45 69) HT_ rfl rfl ?_;refine pA 8 28 (mb 45 325) HT_ rfl rfl ?_;refine tA 1 21 (mb 45 327) HT_ HW_ hHeld rfl rfl (by rintro w' ⟨s0, s1, s2, s3, s4, s5, s6, s7, s8, s9, s10, s11, s12, s13, s14, s15, s16, s17, s18, s19⟩;go_simp;with_reducible rfl) ?_;refine pA 3 23 (mb 45 335) HT_ rfl rfl ?_;refine pA 4 24 (mb 45 351) HT_ rfl rfl ?_;refine tA 5 25 (mb 45 383) HT_ HW_ hHeld rfl rfl (by rintro w' ⟨s0, s1, s2, s3, s4, s5, s6, s7, s8, s9, s10, s11, s12, s13, s14, s15, s16, s17, s18, s19⟩;go_simp;with_reducible rfl) ?_;refine tA 7 27 (mb 45 511) HT_ HW_ hHeld rfl rfl (by rintro w' ⟨s0, s1, s2, s3, s4, s5, s6, s7, s8, s9, s10, s11, s12, s13, s14, s15, s16, s17, s18, s19⟩;go_simp;with_reducible rfl) ?_;refine pA 9 29 (mb 45 1023) HT_ rfl rfl ?_;refine pA 10 30 (mb 45 2047) HT_ rfl rfl ?_;refine tA 11 31 (mb 45 4095) HT_ HW_ hHeld rfl rfl (by rintro w' ⟨s0, s1, s2, s3, s4, s5, s6, s7, s8, s9, s10, s11, s12, s13, s14, s15, s16, s17, s18, s19⟩;go_simp;with_reducible rfl) ?_;refine pA 12 32 (mb 45 8191) HT_ rfl rfl ?_;refine pA 13 33 (mb 45 16383) HT_ rfl rfl ?_;refine pA 14 34 (mb 45 32767) HT_ rfl rfl ?_;refine pA 16 36 (mb 45 98303) HT_ rfl rfl ?_;refine pA 20 40 (mb 45 1146879) HT_ rfl rfl ?_;refine pA 22 42 (mb 45 5341183) HT_ rfl rfl ?_;refine tA 15 35 (mb 45 5373951) HT_ HW_ hHeld rfl rfl (by rintro w' ⟨s0, s1, s2, s3, s4, s5, s6, s7, s8, s9, s10, s11, s12, s13, s14, s15, s16, s17, s18, s19⟩;go_simp;with_reducible rfl) ?_;refine pA 17 37 (mb 45 5505023) HT_ rfl rfl ?_;refine pA 18 38 (mb 45 5767167) HT_ rfl rfl ?_;refine tA 19 39 (mb 45 6291455) HT_ HW_ hHeld rfl rfl (by rintro w' ⟨s0, s1, s2, s3, s4, s5, s6, s7, s8, s9, s10, s11, s12, s13, s14, s15, s16, s17, s18, s19⟩;go_simp;with_reducible rfl) ?_;refine tA 21 41 (mb 45 8388607) HT_ HW_ hHeld rfl rfl (by rintro w' ⟨s0, s1, s2, s3, s4, s5, s6, s7, s8, s9, s10, s11, s12, s13, s14, s15, s16, s17, s18, s19⟩;go_simp;with_reducible rfl) ?_;refine pA 23 43 (mb 45 16777215) HT_ rfl rfl ?_;refine pA 24 44 (mb 45 33554431) HT_ rfl rfl ?_;refine tA 25 45 (mb 45 67108863) HT_ HW_ hHeld rfl rfl (by rintro w' ⟨s0, s1, s2, s3, s4, s5, s6, s7, s8, s9, s10, s11, s12, s13, s14, s15, s16, s17, s18, s19⟩;go_simp;with_reducible rfl) ?_;refine one_ (i := 26) (N := some 46) (mb 45 134217727) rfl rfl (one_of HT_.out (by kernel_rfl)) (by decide) (fun K hK => ?_);refine goes_ Try.func21 (by kernel_rfl) rfl #[.slice A151_1 ((rd_T47 l0_0 x5_1).f1).length c151_1, .slice A152_1 ((rd_T47 l1_0 x5_1).f1).length c152_1] (by rfl) rfl rfl mA ?_
                    with_reducible refine (changeforgeequal_Strings.calls _ _ ((rd_T47 l0_0 x5_1).f1) _ _ ((rd_T47 l1_0 x5_1).f1) true _ ?side1 ?side2 ?side3 ?side4 A16.out).mono ?_
                    (case side1 => exact cBe HR153_1);(case side2 => exact HC153_1.out);(case side3 => exact cBe HR154_1);(case side4 => exact HC154_1.out)
                    rintro e w' ⟨rfl, ⟨nd, rfl⟩⟩
                    refine ⟨_, rfl, ?_⟩;refine hK.out _ _ ⟨(blk_cell BK149.out 0).trans rfl, (blk_cell BK150.out 0).trans rfl, (hX HB hw151_0:), (hX HB hw151_1:), (hX HB hw151_2:), (hX HB hw152_0:), (hX HB hw152_1:), (hX HB hw152_2:), (hX HB hw153_0:), (hX HB hw153_1:), (hX HB hw153_2:), (hX HB hw154_0:), (hX HB hw154_1:), (hX HB hw154_2:), (hX HB hw156_0:), (hX HB hw156_1:), (hX HB hw156_2:), (hX HB hw157_0:), (hX HB hw157_1:), (hX HB hw157_2:)⟩ (fun hHeld => ?_);clear hK K;refine nmA (some 46) ?_;refine pA 27 47 (mb 45 268435455) HT_ rfl rfl ?_;refine pA 28 48 (mb 45 536870911) HT_ rfl rfl ?_;refine pA 29 49 (mb 45 1073741823) HT_ rfl rfl ?_;refine pA 30 50 (mb 45 2147483647) HT_ rfl rfl ?_;refine pA 32 52 (mb 45 6442450943) HT_ rfl rfl ?_;refine pA 36 56 (mb 45 75161927679) HT_ rfl rfl ?_;refine pA 38 58 (mb 45 350039834623) HT_ rfl rfl ?_;refine tA 31 51 (mb 45 352187318271) HT_ HW_ hHeld rfl rfl (by rintro w' ⟨s0, s1, s2, s3, s4, s5, s6, s7, s8, s9, s10, s11, s12, s13, s14, s15, s16, s17, s18, s19⟩;go_simp;with_reducible rfl) ?_;refine pA 33 53 (mb 45 360777252863) HT_ rfl rfl ?_;refine pA 34 54 (mb 45 377957122047) HT_ rfl rfl ?_;refine tA 35 55 (mb 45 412316860415) HT_ HW_ hHeld rfl rfl (by rintro w' ⟨s0, s1, s2, s3, s4, s5, s6, s7, s8, s9, s10, s11, s12, s13, s14, s15, s16, s17, s18, s19⟩;go_simp;with_reducible rfl) ?_;refine tA 37 57 (mb 45 549755813887) HT_ HW_ hHeld rfl rfl (by rintro w' ⟨s0, s1, s2, s3, s4, s5, s6, s7, s8, s9, s10, s11, s12, s13, s14, s15, s16, s17, s18, s19⟩;go_simp;with_reducible rfl) ?_;refine pA 39 59 (mb 45 1099511627775) HT_ rfl rfl ?_;refine pA 40 60 (mb 45 2199023255551) HT_ rfl rfl ?_;refine tA 41 61 (mb 45 4398046511103) HT_ HW_ hHeld rfl rfl (by rintro w' ⟨s0, s1, s2, s3, s4, s5, s6, s7, s8, s9, s10, s11, s12, s13, s14, s15, s16, s17, s18, s19⟩;go_simp;with_reducible rfl) ?_;refine one_ (i := 42) (N := some 62) (mb 45 8796093022207) rfl rfl (one_of HT_.out (by kernel_rfl)) (by decide) (fun K hK => ?_);refine goes_ Try.func21 (by kernel_rfl) rfl #[.slice A151_2 ((rd_T47 l0_0 x5_1).f2).length c151_2, .slice A152_2 ((rd_T47 l1_0 x5_1).f2).length c152_2] (by rfl) rfl rfl mA ?_
                    with_reducible refine (changeforgeequal_Strings.calls _ _ ((rd_T47 l0_0 x5_1).f2) _ _ ((rd_T47 l1_0 x5_1).f2) t158 _ ?side1 ?side2 ?side3 ?side4 A18.out).mono ?_
                    (case side1 => repeat (first|exact (Kd.C_below HR156_2.out eB)|(with_reducible refine Kd.C_alloc ?_ _)|(with_reducible refine Kd.C_drewN ?_ _)|(with_reducible refine Kd.C_drew ?_)));(case side2 => exact HC156_2.out);(case side3 => repeat (first|exact (Kd.C_below HR157_2.out eB)|(with_reducible refine Kd.C_alloc ?_ _)|(with_reducible refine Kd.C_drewN ?_ _)|(with_reducible refine Kd.C_drew ?_)));(case side4 => exact HC157_2.out)
                    rintro e w' ⟨rfl, ⟨nd, rfl⟩⟩
                    refine ⟨_, rfl, ?_⟩;refine hK.out _ _ ⟨(blk_cell BK149.out 0).trans rfl, (blk_cell BK150.out 0).trans rfl, (hX HB hw151_0:), (hX HB hw151_1:), (hX HB hw151_2:), (hX HB hw152_0:), (hX HB hw152_1:), (hX HB hw152_2:), (hX HB hw153_0:), (hX HB hw153_1:), (hX HB hw153_2:), (hX HB hw154_0:), (hX HB hw154_1:), (hX HB hw154_2:), (hX HB hw156_0:), (hX HB hw156_1:), (hX HB hw156_2:), (hX HB hw157_0:), (hX HB hw157_1:), (hX HB hw157_2:)⟩ (fun hHeld => ?_);clear hK K;refine nmA (some 62) ?_;refine pA 43 63 (mb 45 17592186044415) HT_ rfl rfl ?_;refine pA 44 64 (mb 45 35184372088831) HT_ rfl rfl ?_;refine done_ (done_of HT_.out (by kernel_rfl)) ?_
                    try go_wp2
                    go_meet
                    case rel => exact ⟨_, (!t158), (by first|rfl|(simp only [i64_w, i32_w];done)|(simp only [i64_w, i32_w];rfl)|(simp;done)|(simp [*];done)), H', ⟨by have := HK1.out;first|omega|exact Nat.le_refl _⟩, ⟨kK⟩, ⟨kK⟩, ⟨eB⟩⟩
                  · replace c17 := Bool.eq_false_iff.mpr c17;subst c17;have H1 : (changeforgeequal_Patch.j1 k1 x5_1 true l0_0 l1_0) = some r := (by rw [if_neg (show ¬ (false = true) by decide)] at H;exact H);clear H;have H := H1;clear H1;have H' := Aside0.mk H;clear H
                    try go_wp2
                    replace BK149 := Aside0.mk (blk_drew BK149.out);replace BK150 := Aside0.mk (blk_drew BK150.out);replace HB := Aside0.mk (below_drew1 HB.out);have p151 : 0 ≤ (x5_1 : Int) := dA;have q151 : x5_1 < (l0_0.length : Int) := dA;obtain ⟨ad151, A151_1, c151_1, A151_2, c151_2, e151, hx151_0, hx151_1, hx151_2, hl151_1, hi151_1, hl151_2, hi151_2⟩ := at_T47 HR0_0.out x5_1 p151 q151;have hw151_2 := hx151_2;have hw151_1 := hx151_1;have hw151_0 := hx151_0
                    cases e151
                    replace hx151_0 := (hX HB hx151_0:);replace hx151_1 := (hX HB hx151_1:);replace hx151_2 := (hX HB hx151_2:);have HR151_1 := Aside0.mk hi151_1;have HC151_1 := Aside0.mk hl151_1;clear hi151_1 hl151_1;have HR151_2 := Aside0.mk hi151_2;have HC151_2 := Aside0.mk hl151_2;clear hi151_2 hl151_2;replace p151 := eq_true p151;replace q151 := eq_true q151;have p152 : 0 ≤ (x5_1 : Int) := dA;have q152 : x5_1 < (l1_0.length : Int) := dA;obtain ⟨ad152, A152_1, c152_1, A152_2, c152_2, e152, hx152_0, hx152_1, hx152_2, hl152_1, hi152_1, hl152_2, hi152_2⟩ := at_T47 HR1_0.out x5_1 p152 q152;have hw152_2 := hx152_2;have hw152_1 := hx152_1;have hw152_0 := hx152_0
                    cases e152
                    replace hx152_0 := (hX HB hx152_0:);replace hx152_1 := (hX HB hx152_1:);replace hx152_2 := (hX HB hx152_2:);have HR152_1 := Aside0.mk hi152_1;have HC152_1 := Aside0.mk hl152_1;clear hi152_1 hl152_1;have HR152_2 := Aside0.mk hi152_2;have HC152_2 := Aside0.mk hl152_2;clear hi152_2 hl152_2;replace p152 := eq_true p152;replace q152 := eq_true q152;have p153 : 0 ≤ (x5_1 : Int) := dA;have q153 : x5_1 < (l0_0.length : Int) := dA;obtain ⟨ad153, A153_1, c153_1, A153_2, c153_2, e153, hx153_0, hx153_1, hx153_2, hl153_1, hi153_1, hl153_2, hi153_2⟩ := at_T47 HR0_0.out x5_1 p153 q153;have hw153_2 := hx153_2;have hw153_1 := hx153_1;have hw153_0 := hx153_0;obtain rfl : ad151 = ad153 := (by injection e153);replace hx153_0 := (hX HB hx153_0:);replace hx153_1 := (hX HB hx153_1:);replace hx153_2 := (hX HB hx153_2:);have HR153_1 := Aside0.mk hi153_1;have HC153_1 := Aside0.mk hl153_1;clear hi153_1 hl153_1;have HR153_2 := Aside0.mk hi153_2;have HC153_2 := Aside0.mk hl153_2;clear hi153_2 hl153_2;replace p153 := eq_true p153;replace q153 := eq_true q153;have ea_ := Option.some.inj (hx151_1.symm.trans hx153_1);injection ea_ with ea_ en_ ec_;subst ea_;subst ec_;clear en_;have ea_ := Option.some.inj (hx151_2.symm.trans hx153_2);injection ea_ with ea_ en_ ec_;subst ea_;subst ec_;clear en_;have p154 : 0 ≤ (x5_1 : Int) := dA;have q154 : x5_1 < (l1_0.length : Int) := dA;obtain ⟨ad154, A154_1, c154_1, A154_2, c154_2, e154, hx154_0, hx154_1, hx154_2, hl154_1, hi154_1, hl154_2, hi154_2⟩ := at_T47 HR1_0.out x5_1 p154 q154;have hw154_2 := hx154_2;have hw154_1 := hx154_1;have hw154_0 := hx154_0;obtain rfl : ad152 = ad154 := (by injection e154);replace hx154_0 := (hX HB hx154_0:);replace hx154_1 := (hX HB hx154_1:);replace hx154_2 := (hX HB hx154_2:);have HR154_1 := Aside0.mk hi154_1;have HC154_1 := Aside0.mk hl154_1;clear hi154_1 hl154_1;have HR154_2 := Aside0.mk hi154_2;have HC154_2 := Aside0.mk hl154_2;clear hi154_2 hl154_2;replace p154 := eq_true p154;replace q154 := eq_true q154;have ea_ := Option.some.inj (hx152_1.symm.trans hx154_1);injection ea_ with ea_ en_ ec_;subst ea_;subst ec_;clear en_;have ea_ := Option.some.inj (hx152_2.symm.trans hx154_2);injection ea_ with ea_ en_ ec_;subst ea_;subst ec_;clear en_;refine start_ (n := 45) (S := fun w' => w'.cell? ⟨gb149, 0, none⟩ = some (.slice (some ad151) l0_0.length c0_0) ∧ w'.cell? ⟨gb150, 0, none⟩ = some (.slice (some ad152) l1_0.length c1_0) ∧ w'.cell? (ad151.add ((x5_1).toNat * 3)) = some (.int .i64 ((rd_T47 l0_0 x5_1).f0)) ∧ w'.cell? ⟨(ad151.add ((x5_1).toNat * 3)).block, (ad151.add ((x5_1).toNat * 3)).off + 1, none⟩ = some (.slice A151_1 ((rd_T47 l0_0 x5_1).f1).length c151_1) ∧ w'.cell? ⟨(ad151.add ((x5_1).toNat * 3)).block, (ad151.add ((x5_1).toNat * 3)).off + 2, none⟩ = some (.slice A151_2 ((rd_T47 l0_0 x5_1).f2).length c151_2) ∧ w'.cell? (ad152.add ((x5_1).toNat * 3)) = some (.int .i64 ((rd_T47 l1_0 x5_1).f0)) ∧ w'.cell? ⟨(ad152.add ((x5_1).toNat * 3)).block, (ad152.add ((x5_1).toNat * 3)).off + 1, none⟩ = some (.slice A152_1 ((rd_T47 l1_0 x5_1).f1).length c152_1) ∧ w'.cell? ⟨(ad152.add ((x5_1).toNat * 3)).block, (ad152.add ((x5_1).toNat * 3)).off + 2, none⟩ = some (.slice A152_2 ((rd_T47 l1_0 x5_1).f2).length c152_2) ∧ w'.cell? (ad151.add ((x5_1).toNat * 3)) = some (.int .i64 ((rd_T47 l0_0 x5_1).f0)) ∧ w'.cell? ⟨(ad151.add ((x5_1).toNat * 3)).block, (ad151.add ((x5_1).toNat * 3)).off + 1, none⟩ = some (.slice A151_1 ((rd_T47 l0_0 x5_1).f1).length c151_1) ∧ w'.cell? ⟨(ad151.add ((x5_1).toNat * 3)).block, (ad151.add ((x5_1).toNat * 3)).off + 2, none⟩ = some (.slice A151_2 ((rd_T47 l0_0 x5_1).f2).length c151_2) ∧ w'.cell? (ad152.add ((x5_1).toNat * 3)) = some (.int .i64 ((rd_T47 l1_0 x5_1).f0)) ∧ w'.cell? ⟨(ad152.add ((x5_1).toNat * 3)).block, (ad152.add ((x5_1).toNat * 3)).off + 1, none⟩ = some (.slice A152_1 ((rd_T47 l1_0 x5_1).f1).length c152_1) ∧ w'.cell? ⟨(ad152.add ((x5_1).toNat * 3)).block, (ad152.add ((x5_1).toNat * 3)).off + 2, none⟩ = some (.slice A152_2 ((rd_T47 l1_0 x5_1).f2).length c152_2)) (ds := []) (mb 45 0) (by kernel_rfl) rfl (by kernel_rfl) ⟨(blk_cell BK149.out 0).trans rfl, (blk_cell BK150.out 0).trans rfl, (hX HB hw151_0:), (hX HB hw151_1:), (hX HB hw151_2:), (hX HB hw152_0:), (hX HB hw152_1:), (hX HB hw152_2:), (hX HB hw153_0:), (hX HB hw153_1:), (hX HB hw153_2:), (hX HB hw154_0:), (hX HB hw154_1:), (hX HB hw154_2:)⟩ (fun hHeld => ?_);refine with_tabW changeforgeequal_Patch.tab6 changeforgeequal_Patch.bits6 (fun HT_ HW_ => ?_);generalize wr.drew = w20 at BK149 BK150 HB HR151_1 HR151_2 HR152_1 HR152_2 HR153_1 HR153_2 HR154_1 HR154_2 hx151_0 hx151_1 hx151_2 hx152_0 hx152_1 hx152_2 hx153_0 hx153_1 hx153_2 hx154_0 hx154_1 hx154_2 hHeld ⊢;refine pA 0 20 (mb 45 1) HT_ rfl rfl ?_;refine pA 2 22 (mb 45 5) HT_ rfl rfl ?_;refine pA 6 26 (mb 45 69) HT_ rfl rfl ?_;refine pA 8 28 (mb 45 325) HT_ rfl rfl ?_;refine tA 1 21 (mb 45 327) HT_ HW_ hHeld rfl rfl (by rintro w' ⟨s0, s1, s2, s3, s4, s5, s6, s7, s8, s9, s10, s11, s12, s13⟩;go_simp;with_reducible rfl) ?_;refine pA 3 23 (mb 45 335) HT_ rfl rfl ?_;refine pA 4 24 (mb 45 351) HT_ rfl rfl ?_;refine tA 5 25 (mb 45 383) HT_ HW_ hHeld rfl rfl (by rintro w' ⟨s0, s1, s2, s3, s4, s5, s6, s7, s8, s9, s10, s11, s12, s13⟩;go_simp;with_reducible rfl) ?_;refine tA 7 27 (mb 45 511) HT_ HW_ hHeld rfl rfl (by rintro w' ⟨s0, s1, s2, s3, s4, s5, s6, s7, s8, s9, s10, s11, s12, s13⟩;go_simp;with_reducible rfl) ?_;refine pA 9 29 (mb 45 1023) HT_ rfl rfl ?_;refine pA 10 30 (mb 45 2047) HT_ rfl rfl ?_;refine tA 11 31 (mb 45 4095) HT_ HW_ hHeld rfl rfl (by rintro w' ⟨s0, s1, s2, s3, s4, s5, s6, s7, s8, s9, s10, s11, s12, s13⟩;go_simp;with_reducible rfl) ?_;refine pA 12 32 (mb 45 8191) HT_ rfl rfl ?_;refine pA 13 33 (mb 45 16383) HT_ rfl rfl ?_;refine pA 14 34 (mb 45 32767) HT_ rfl rfl ?_;refine pA 16 36 (mb 45 98303) HT_ rfl rfl ?_;refine pA 20 40 (mb 45 1146879) HT_ rfl rfl ?_;refine pA 22 42 (mb 45 5341183) HT_ rfl rfl ?_;refine tA 15 35 (mb 45 5373951) HT_ HW_ hHeld rfl rfl (by rintro w' ⟨s0, s1, s2, s3, s4, s5, s6, s7, s8, s9, s10, s11, s12, s13⟩;go_simp;with_reducible rfl) ?_;refine pA 17 37 (mb 45 5505023) HT_ rfl rfl ?_;refine pA 18 38 (mb 45 5767167) HT_ rfl rfl ?_;refine tA 19 39 (mb 45 6291455) HT_ HW_ hHeld rfl rfl (by rintro w' ⟨s0, s1, s2, s3, s4, s5, s6, s7, s8, s9, s10, s11, s12, s13⟩;go_simp;with_reducible rfl) ?_;refine tA 21 41 (mb 45 8388607) HT_ HW_ hHeld rfl rfl (by rintro w' ⟨s0, s1, s2, s3, s4, s5, s6, s7, s8, s9, s10, s11, s12, s13⟩;go_simp;with_reducible rfl) ?_;refine pA 23 43 (mb 45 16777215) HT_ rfl rfl ?_;refine pA 24 44 (mb 45 33554431) HT_ rfl rfl ?_;refine tA 25 45 (mb 45 67108863) HT_ HW_ hHeld rfl rfl (by rintro w' ⟨s0, s1, s2, s3, s4, s5, s6, s7, s8, s9, s10, s11, s12, s13⟩;go_simp;with_reducible rfl) ?_;refine one_ (i := 26) (N := some 46) (mb 45 134217727) rfl rfl (one_of HT_.out (by kernel_rfl)) (by decide) (fun K hK => ?_);refine goes_ Try.func21 (by kernel_rfl) rfl #[.slice A151_1 ((rd_T47 l0_0 x5_1).f1).length c151_1, .slice A152_1 ((rd_T47 l1_0 x5_1).f1).length c152_1] (by rfl) rfl rfl mA ?_
                    with_reducible refine (changeforgeequal_Strings.calls _ _ ((rd_T47 l0_0 x5_1).f1) _ _ ((rd_T47 l1_0 x5_1).f1) false _ ?side1 ?side2 ?side3 ?side4 A16.out).mono ?_
                    (case side1 => exact cBe HR153_1);(case side2 => exact HC153_1.out);(case side3 => exact cBe HR154_1);(case side4 => exact HC154_1.out)
                    rintro e w' ⟨rfl, ⟨nd, rfl⟩⟩
                    refine ⟨_, rfl, ?_⟩;refine hK.out _ _ ⟨(blk_cell BK149.out 0).trans rfl, (blk_cell BK150.out 0).trans rfl, (hX HB hw151_0:), (hX HB hw151_1:), (hX HB hw151_2:), (hX HB hw152_0:), (hX HB hw152_1:), (hX HB hw152_2:), (hX HB hw153_0:), (hX HB hw153_1:), (hX HB hw153_2:), (hX HB hw154_0:), (hX HB hw154_1:), (hX HB hw154_2:)⟩ (fun hHeld => ?_);clear hK K;refine nmA (some 46) ?_;refine pA 27 47 (mb 45 268435455) HT_ rfl rfl ?_;refine pA 28 48 (mb 45 536870911) HT_ rfl rfl ?_;refine pA 29 49 (mb 45 1073741823) HT_ rfl rfl ?_;refine pU 30 50 (mb 45 2147483647) HT_ rfl rfl ?_;refine pU 31 51 (mb 45 4294967295) HT_ rfl rfl ?_;refine pU 32 52 (mb 45 8589934591) HT_ rfl rfl ?_;refine pU 33 53 (mb 45 17179869183) HT_ rfl rfl ?_;refine pU 34 54 (mb 45 34359738367) HT_ rfl rfl ?_;refine pU 35 55 (mb 45 68719476735) HT_ rfl rfl ?_;refine pU 36 56 (mb 45 137438953471) HT_ rfl rfl ?_;refine pU 37 57 (mb 45 274877906943) HT_ rfl rfl ?_;refine pU 38 58 (mb 45 549755813887) HT_ rfl rfl ?_;refine pU 39 59 (mb 45 1099511627775) HT_ rfl rfl ?_;refine pU 40 60 (mb 45 2199023255551) HT_ rfl rfl ?_;refine pU 41 61 (mb 45 4398046511103) HT_ rfl rfl ?_;refine pU 42 62 (mb 45 8796093022207) HT_ rfl rfl ?_;refine pU 43 63 (mb 45 17592186044415) HT_ rfl rfl ?_;refine pA 44 64 (mb 45 35184372088831) HT_ rfl rfl ?_;refine done_ (done_of HT_.out (by kernel_rfl)) ?_
                    try go_wp2
                    go_meet
                    case rel => exact ⟨_, (true), (by first|rfl|(simp only [i64_w, i32_w];done)|(simp only [i64_w, i32_w];rfl)|(simp;done)|(simp [*];done)), H', ⟨by have := HK1.out;first|omega|exact Nat.le_refl _⟩, ⟨kK⟩, ⟨kK⟩, ⟨eB⟩⟩
                · rw [if_neg c15] at H;have c15b0 : (((rd_T47 l0_0 x5_1).f0) == ((rd_T47 l1_0 x5_1).f0)) = false := beq_eq_false_iff_ne.mpr c15;have c15b1 : (((rd_T47 l0_0 x5_1).f0) != ((rd_T47 l1_0 x5_1).f0)) = true := bne_iff_ne.mpr c15;have H' := Aside0.mk H;clear H
                  try go_wp2
                  replace BK149 := Aside0.mk (blk_drew BK149.out);replace BK150 := Aside0.mk (blk_drew BK150.out);replace HB := Aside0.mk (below_drew1 HB.out);have p151 : 0 ≤ (x5_1 : Int) := dA;have q151 : x5_1 < (l0_0.length : Int) := dA;obtain ⟨ad151, A151_1, c151_1, A151_2, c151_2, e151, hx151_0, hx151_1, hx151_2, hl151_1, hi151_1, hl151_2, hi151_2⟩ := at_T47 HR0_0.out x5_1 p151 q151;have hw151_2 := hx151_2;have hw151_1 := hx151_1;have hw151_0 := hx151_0
                  cases e151
                  replace hx151_0 := (hX HB hx151_0:);replace hx151_1 := (hX HB hx151_1:);replace hx151_2 := (hX HB hx151_2:);have HR151_1 := Aside0.mk hi151_1;have HC151_1 := Aside0.mk hl151_1;clear hi151_1 hl151_1;have HR151_2 := Aside0.mk hi151_2;have HC151_2 := Aside0.mk hl151_2;clear hi151_2 hl151_2;replace p151 := eq_true p151;replace q151 := eq_true q151;have p152 : 0 ≤ (x5_1 : Int) := dA;have q152 : x5_1 < (l1_0.length : Int) := dA;obtain ⟨ad152, A152_1, c152_1, A152_2, c152_2, e152, hx152_0, hx152_1, hx152_2, hl152_1, hi152_1, hl152_2, hi152_2⟩ := at_T47 HR1_0.out x5_1 p152 q152;have hw152_2 := hx152_2;have hw152_1 := hx152_1;have hw152_0 := hx152_0
                  cases e152
                  replace hx152_0 := (hX HB hx152_0:);replace hx152_1 := (hX HB hx152_1:);replace hx152_2 := (hX HB hx152_2:);have HR152_1 := Aside0.mk hi152_1;have HC152_1 := Aside0.mk hl152_1;clear hi152_1 hl152_1;have HR152_2 := Aside0.mk hi152_2;have HC152_2 := Aside0.mk hl152_2;clear hi152_2 hl152_2;replace p152 := eq_true p152;replace q152 := eq_true q152;refine start_ (n := 45) (S := fun w' => w'.cell? ⟨gb149, 0, none⟩ = some (.slice (some ad151) l0_0.length c0_0) ∧ w'.cell? ⟨gb150, 0, none⟩ = some (.slice (some ad152) l1_0.length c1_0) ∧ w'.cell? (ad151.add ((x5_1).toNat * 3)) = some (.int .i64 ((rd_T47 l0_0 x5_1).f0)) ∧ w'.cell? ⟨(ad151.add ((x5_1).toNat * 3)).block, (ad151.add ((x5_1).toNat * 3)).off + 1, none⟩ = some (.slice A151_1 ((rd_T47 l0_0 x5_1).f1).length c151_1) ∧ w'.cell? ⟨(ad151.add ((x5_1).toNat * 3)).block, (ad151.add ((x5_1).toNat * 3)).off + 2, none⟩ = some (.slice A151_2 ((rd_T47 l0_0 x5_1).f2).length c151_2) ∧ w'.cell? (ad152.add ((x5_1).toNat * 3)) = some (.int .i64 ((rd_T47 l1_0 x5_1).f0)) ∧ w'.cell? ⟨(ad152.add ((x5_1).toNat * 3)).block, (ad152.add ((x5_1).toNat * 3)).off + 1, none⟩ = some (.slice A152_1 ((rd_T47 l1_0 x5_1).f1).length c152_1) ∧ w'.cell? ⟨(ad152.add ((x5_1).toNat * 3)).block, (ad152.add ((x5_1).toNat * 3)).off + 2, none⟩ = some (.slice A152_2 ((rd_T47 l1_0 x5_1).f2).length c152_2)) (ds := []) (mb 45 0) (by kernel_rfl) rfl (by kernel_rfl) ⟨(blk_cell BK149.out 0).trans rfl, (blk_cell BK150.out 0).trans rfl, (hX HB hw151_0:), (hX HB hw151_1:), (hX HB hw151_2:), (hX HB hw152_0:), (hX HB hw152_1:), (hX HB hw152_2:)⟩ (fun hHeld => ?_);refine with_tabW changeforgeequal_Patch.tab6 changeforgeequal_Patch.bits6 (fun HT_ HW_ => ?_);generalize wr.drew = w21 at BK149 BK150 HB HR151_1 HR151_2 HR152_1 HR152_2 hx151_0 hx151_1 hx151_2 hx152_0 hx152_1 hx152_2 hHeld ⊢;refine pA 0 20 (mb 45 1) HT_ rfl rfl ?_;refine pA 2 22 (mb 45 5) HT_ rfl rfl ?_;refine pA 6 26 (mb 45 69) HT_ rfl rfl ?_;refine pA 8 28 (mb 45 325) HT_ rfl rfl ?_;refine tA 1 21 (mb 45 327) HT_ HW_ hHeld rfl rfl (by rintro w' ⟨s0, s1, s2, s3, s4, s5, s6, s7⟩;go_simp;with_reducible rfl) ?_;refine pA 3 23 (mb 45 335) HT_ rfl rfl ?_;refine pA 4 24 (mb 45 351) HT_ rfl rfl ?_;refine tA 5 25 (mb 45 383) HT_ HW_ hHeld rfl rfl (by rintro w' ⟨s0, s1, s2, s3, s4, s5, s6, s7⟩;go_simp;with_reducible rfl) ?_;refine tA 7 27 (mb 45 511) HT_ HW_ hHeld rfl rfl (by rintro w' ⟨s0, s1, s2, s3, s4, s5, s6, s7⟩;go_simp;with_reducible rfl) ?_;refine pA 9 29 (mb 45 1023) HT_ rfl rfl ?_;refine pA 10 30 (mb 45 2047) HT_ rfl rfl ?_;refine tA 11 31 (mb 45 4095) HT_ HW_ hHeld rfl rfl (by rintro w' ⟨s0, s1, s2, s3, s4, s5, s6, s7⟩;go_simp;with_reducible rfl) ?_;refine pA 12 32 (mb 45 8191) HT_ rfl rfl ?_;refine pA 13 33 (mb 45 16383) HT_ rfl rfl ?_;refine pU 14 34 (mb 45 32767) HT_ rfl rfl ?_;refine pU 15 35 (mb 45 65535) HT_ rfl rfl ?_;refine pU 16 36 (mb 45 131071) HT_ rfl rfl ?_;refine pU 17 37 (mb 45 262143) HT_ rfl rfl ?_;refine pU 18 38 (mb 45 524287) HT_ rfl rfl ?_;refine pU 19 39 (mb 45 1048575) HT_ rfl rfl ?_;refine pU 20 40 (mb 45 2097151) HT_ rfl rfl ?_;refine pU 21 41 (mb 45 4194303) HT_ rfl rfl ?_;refine pU 22 42 (mb 45 8388607) HT_ rfl rfl ?_;refine pU 23 43 (mb 45 16777215) HT_ rfl rfl ?_;refine pU 24 44 (mb 45 33554431) HT_ rfl rfl ?_;refine pU 25 45 (mb 45 67108863) HT_ rfl rfl ?_;refine pU 26 46 (mb 45 134217727) HT_ rfl rfl ?_;refine pU 27 47 (mb 45 268435455) HT_ rfl rfl ?_;refine pA 28 48 (mb 45 536870911) HT_ rfl rfl ?_;refine pA 29 49 (mb 45 1073741823) HT_ rfl rfl ?_;refine pU 30 50 (mb 45 2147483647) HT_ rfl rfl ?_;refine pU 31 51 (mb 45 4294967295) HT_ rfl rfl ?_;refine pU 32 52 (mb 45 8589934591) HT_ rfl rfl ?_;refine pU 33 53 (mb 45 17179869183) HT_ rfl rfl ?_;refine pU 34 54 (mb 45 34359738367) HT_ rfl rfl ?_;refine pU 35 55 (mb 45 68719476735) HT_ rfl rfl ?_;refine pU 36 56 (mb 45 137438953471) HT_ rfl rfl ?_;refine pU 37 57 (mb 45 274877906943) HT_ rfl rfl ?_;refine pU 38 58 (mb 45 549755813887) HT_ rfl rfl ?_;refine pU 39 59 (mb 45 1099511627775) HT_ rfl rfl ?_;refine pU 40 60 (mb 45 2199023255551) HT_ rfl rfl ?_;refine pU 41 61 (mb 45 4398046511103) HT_ rfl rfl ?_;refine pU 42 62 (mb 45 8796093022207) HT_ rfl rfl ?_;refine pU 43 63 (mb 45 17592186044415) HT_ rfl rfl ?_;refine pA 44 64 (mb 45 35184372088831) HT_ rfl rfl ?_;refine done_ (done_of HT_.out (by kernel_rfl)) ?_
                  try go_wp2
                  go_meet
                  case rel => exact ⟨_, (true), (by first|rfl|(simp only [i64_w, i32_w];done)|(simp only [i64_w, i32_w];rfl)|(simp;done)|(simp [*];done)), H', ⟨by have := HK1.out;first|omega|exact Nat.le_refl _⟩, ⟨kK⟩, ⟨kK⟩, ⟨eB⟩⟩
              · rw [if_neg c14] at H;exact absurd H (by simp)
            · rw [if_neg c13] at H;exact absurd H (by simp)
          case rest =>
            clear HC10
            try clear c1
            try clear p1
            try clear q1
            try clear hx1
            try clear c2
            try clear p2
            try clear c13
            try clear c14
            try clear c15
            try clear c15b0
            try clear c15b1
            try clear p15
            try clear q15
            try clear hx15
            try clear c21
            try clear hx151_0
            try clear hx151_1
            try clear hx151_2
            try clear hx152_0
            try clear hx152_1
            try clear hx152_2
            try clear p151
            try clear p152
            try clear q151
            try clear q152
            obtain ⟨kq, x64_9, rfl, HA, HJ9, BK149, BK150, HB⟩ := hcut
            cases kq with
            | zero => exact absurd HA.out (by simp [changeforgeequal_Patch.j1])
            | succ kj9 =>
              have H := HA.out;clear HA;simp only [changeforgeequal_Patch.j1] at H
              by_cases c22 : x64_9 = true
              · subst c22;have H1 : (some false) = some r := (by rw [if_pos rfl] at H;exact H);clear H;have H := H1;clear H1;obtain rfl := Option.some.inj H
                go_wp2
                go_ret
                exact ⟨rW, eB⟩
              · replace c22 := Bool.eq_false_iff.mpr c22;subst c22;have H1 : (changeforgeequal_Patch.l0 kj9 (wrap64 (x5_1 + 1)) l0_0 l1_0) = some r := (by rw [if_neg (show ¬ (false = true) by decide)] at H;exact H);clear H;have H := H1;clear H1;have H' := Aside0.mk H;clear H
                go_wp2
                go_roundg kj9
                case measure => have := HK1.out;have := HJ9.out;omega
                case rel => exact ⟨(wrap64 (x5_1 + 1)), (by first|rfl|(simp only [i64_w, i32_w];done)|(simp only [i64_w, i32_w];rfl)|(simp;done)|(simp [*];done)), H', ⟨by have := HK1.out;have := HJ9.out;omega⟩, ⟨kK⟩, ⟨kK⟩, ⟨eB⟩⟩
        · rw [if_neg c9] at H;have c9b0 : decide (x5_1 < (l0_0.length : Int)) = false := decide_eq_false c9;clear c9;obtain rfl := Option.some.inj H;have hnb23 := NB149_150.out;have hnc23 := NB150_149.out;have hcz24_0 : wr.cell? ⟨gb149, 0, none⟩ = some (.slice A0_0 l0_0.length c0_0) := (blk_cell BK149.out 0).trans rfl;have hfz24_0 := blk_frozen BK149.out 0
          go_wp2
          go_ret
          exact ⟨rW, eB⟩
  · rw [if_neg c3] at H;have c3b0 : ((l0_0.length : Int) == (l1_0.length : Int)) = false := beq_eq_false_iff_ne.mpr c3;have c3b1 : ((l0_0.length : Int) != (l1_0.length : Int)) = true := bne_iff_ne.mpr c3;have c3b2 : (l0_0.length == l1_0.length) = false := (by first|simpa using c3|(simp at c3 ⊢;omega));obtain rfl := Option.some.inj H
    go_enter Try.func22, Try.ntmps22
    go_wp2_with (first|((with_reducible refine gate_dst (N := 2) rfl ?_);refine bE 2 #[.slice A0_0 l0_0.length c0_0] 24 ?_;intro gb149 hg w25 hbox hb;have BK149 := Aside0.mk (hbox);have GW149 := gBe HB hg;have GE149 := gBe HB hg;replace HB := sBe HB hb;clear hb hbox hg)|((with_reducible refine gate_dst (N := 3) rfl ?_);refine bE 3 #[.slice A1_0 l1_0.length c1_0] 24 ?_;intro gb150 hg w26 hbox hb;have BK150 := Aside0.mk (hbox);have GW150 := gBe HB hg;have GE150 := gBe HB hg;have NB149_150 := nL BK149 hg;have NB150_149 := nG BK149 hg;replace BK149 := lJ BK149 hb;replace HB := sBe HB hb;clear hb hbox hg;have hnb27 := NB149_150.out;have hnc27 := NB150_149.out;have hcz28_0 := hC BK149 0 (.slice A0_0 l0_0.length c0_0);have hfz28_0 := blk_frozen BK149.out 0;have hcz29_0 := hC BK150 0 (.slice A1_0 l1_0.length c1_0);have hfz29_0 := blk_frozen BK150.out 0))
    go_ret
    exact ⟨rW, eB⟩

/-! ### commute_check: function 50 -/
def commute_check.f (l0_0 : List (S47)) (l1_0 : List (S47)) : Option (Int × Int) := (textpatch_Validate.f l0_0).bind fun bt162 => (if (!(bt162.1 == 0) || (!(bt162.2 == 0))) = true then (some (bt162.1, bt162.2)) else ((textpatch_Validate.f l1_0).bind fun bt165 => (if (!(bt165.1 == 0) || (!(bt165.2 == 0))) = true then (some (bt165.1, (-2))) else (some (0, 0)))))
set_option maxHeartbeats 8000000 in
set_option maxRecDepth 100000 in
theorem commute_check.calls (A0_0 : Option Addr) (c0_0 : Nat) (l0_0 : List (S47)) (A1_0 : Option Addr) (c1_0 : Nat) (l1_0 : List (S47)) (r1 : Int) (r2 : Int) (w : World) (hr0_0 : Kd.C k47 w A0_0 l0_0.length l0_0) (hc0_0 : l0_0.length ≤ c0_0) (hr1_0 : Kd.C k47 w A1_0 l1_0.length l1_0) (hc1_0 : l1_0.length ≤ c1_0) (h : commute_check.f l0_0 l1_0 = some (r1, r2)) :
    Calls Try.prog 50 #[.agg #[.slice A0_0 l0_0.length c0_0], .agg #[.slice A1_0 l1_0.length c1_0]] w fun e w' => e = .returned (.agg #[.int .i64 r1, .int .i64 r2]) ∧ Below w.heap.size w w' := by
  have hu24 := Try.underlying24;have hu27 := Try.underlying27;have HR0_0 := Aside0.mk hr0_0;have HC0_0 := Aside0.mk hc0_0;clear hr0_0 hc0_0;have HR1_0 := Aside0.mk hr1_0;have HC1_0 := Aside0.mk hc1_0;clear hr1_0 hc1_0;have HB := Aside0.mk (Below.refl w.heap.size w);have H : ((textpatch_Validate.f l0_0).bind fun bt162 => (if (!(bt162.1 == 0) || (!(bt162.2 == 0))) = true then (some (bt162.1, bt162.2)) else ((textpatch_Validate.f l1_0).bind fun bt165 => (if (!(bt165.1 == 0) || (!(bt165.2 == 0))) = true then (some (bt165.1, (-2))) else (some (0, 0)))))) = some (r1, r2) := h;clear h;replace H := Option.bind_eq_some_iff.mp H;obtain ⟨⟨t162, t163⟩, A30, H⟩ := H;replace H : (if (!(t162 == 0) || (!(t163 == 0))) = true then (some (t162, t163)) else ((textpatch_Validate.f l1_0).bind fun bt165 => (if (!(bt165.1 == 0) || (!(bt165.2 == 0))) = true then (some (bt165.1, (-2))) else (some (0, 0))))) = some (r1, r2) := H;have A3 := Aside0.mk A30;clear A30
  by_cases c4 : (!(t162 == 0) || (!(t163 == 0))) = true
  · rw [if_pos c4] at H;have c4b0 : (!(t162 == 0) || (!(t163 == 0))) = true := c4;clear c4;simp only [Option.some.injEq, Prod.mk.injEq] at H;obtain ⟨rfl, rfl⟩ := H
    go_enter Try.func50, Try.ntmps50
    go_wp2_with (first|((with_reducible refine gate_dst (N := 2) rfl ?_);refine bE 2 #[.slice A0_0 l0_0.length c0_0] 24 ?_;intro gb159 hg w5 hbox hb;have BK159 := Aside0.mk (hbox);have GW159 := gBe HB hg;have GE159 := gBe HB hg;replace HB := sBe HB hb;clear hb hbox hg)|((with_reducible refine gate_dst (N := 3) rfl ?_);refine bE 3 #[.slice A1_0 l1_0.length c1_0] 24 ?_;intro gb160 hg w6 hbox hb;have BK160 := Aside0.mk (hbox);have GW160 := gBe HB hg;have GE160 := gBe HB hg;have NB159_160 := nL BK159 hg;have NB160_159 := nG BK159 hg;replace BK159 := lJ BK159 hb;replace HB := sBe HB hb;clear hb hbox hg)|((with_reducible refine gate_dst (N := 4) rfl ?_);refine bE 4 #[.int .i64 0, .int .i64 0] 27 ?_;intro gb161 hg w7 hbox hb;have BK161 := Aside0.mk (hbox);have GW161 := gBe HB hg;have GE161 := gBe HB hg;have NB159_161 := nL BK159 hg;have NB161_159 := nG BK159 hg;have NB160_161 := nL BK160 hg;have NB161_160 := nG BK160 hg;replace BK159 := lJ BK159 hb;replace BK160 := lJ BK160 hb;replace HB := sBe HB hb;clear hb hbox hg;have hnb8 := NB159_160.out;have hnc8 := NB160_159.out;have hnb9 := NB159_161.out;have hnc9 := NB161_159.out;have hcz10_0 := hC BK159 0 (.slice A0_0 l0_0.length c0_0);have hfz10_0 := blk_frozen BK159.out 0)|((with_reducible refine gate_callee (f := 19) rfl ?_);refine goesL_ (some 8) rfl rfl Try.func19 (by kernel_rfl) rfl #[.agg #[.slice A0_0 l0_0.length c0_0]] rfl mA ?_;(with_reducible refine (textpatch_Validate.calls _ _ l0_0 t162 t163 _ ?side1 ?side2 A3.out).mono ?_);(case side1 => exact cBe HR0_0);(case side2 => exact HC0_0.out);rintro e w11 ⟨rfl, hb⟩;refine ⟨_, rfl, ?_⟩;replace BK159 := lJ BK159 hb;replace BK160 := lJ BK160 hb;replace BK161 := lJ BK161 hb;replace HB := sBe HB hb;(try clear hb))|((with_reducible refine gate_dst (N := 5) rfl ?_);refine bE 5 #[.int .i64 0, .int .i64 0] 27 ?_;intro gb164 hg w12 hbox hb;have BK164 := Aside0.mk (hbox);have GW164 := gBe HB hg;have GE164 := gBe HB hg;have NB159_164 := nL BK159 hg;have NB164_159 := nG BK159 hg;have NB160_164 := nL BK160 hg;have NB164_160 := nG BK160 hg;have NB161_164 := nL BK161 hg;have NB164_161 := nG BK161 hg;replace BK159 := lJ BK159 hb;replace BK160 := lJ BK160 hb;replace BK161 := lJ BK161 hb;replace HB := sBe HB hb;clear hb hbox hg;have hnb13 := NB164_159.out;have hnc13 := NB159_164.out;have hnb14 := NB164_160.out;have hnc14 := NB160_164.out;have hnb15 := NB164_161.out;have hnc15 := NB161_164.out;have hcz16_0 := hC BK164 0 (.int .i64 0);have hcz16_1 := hC BK164 1 (.int .i64 0);have hfz16_0 := blk_frozen BK164.out 0;have hfz16_1 := blk_frozen BK164.out 1;have hnb17 := NB161_160.out;have hnc17 := NB160_161.out;have hcz18_0 := hC BK161 0 (.int .i64 0);have hcz18_1 := hC BK161 1 (.int .i64 0);have hfz18_0 := blk_frozen BK161.out 0;have hfz18_1 := blk_frozen BK161.out 1))
    refine bodyPost_ret (results_cell_row rfl _ _ gb161 27 #[.int .i64 t162, .int .i64 t163] (0, 0) _ rfl kK Try.underlying27 rfl (by kernel_rfl)) rfl ?_;exact ⟨rW, eB⟩
  · rw [if_neg c4] at H;have c4b0 : (!(t162 == 0) || (!(t163 == 0))) = false := (by simpa using c4);clear c4;replace H := Option.bind_eq_some_iff.mp H;obtain ⟨⟨t165, t166⟩, A190, H⟩ := H;replace H : (if (!(t165 == 0) || (!(t166 == 0))) = true then (some (t165, (-2))) else (some (0, 0))) = some (r1, r2) := H;have A19 := Aside0.mk A190;clear A190
    by_cases c20 : (!(t165 == 0) || (!(t166 == 0))) = true
    · rw [if_pos c20] at H;have c20b0 : (!(t165 == 0) || (!(t166 == 0))) = true := c20;clear c20;simp only [Option.some.injEq, Prod.mk.injEq] at H;obtain ⟨rfl, rfl⟩ := H
      go_enter Try.func50, Try.ntmps50
      go_wp2_with (first|((with_reducible refine gate_dst (N := 2) rfl ?_);refine bE 2 #[.slice A0_0 l0_0.length c0_0] 24 ?_;intro gb159 hg w21 hbox hb;have BK159 := Aside0.mk (hbox);have GW159 := gBe HB hg;have GE159 := gBe HB hg;replace HB := sBe HB hb;clear hb hbox hg)|((with_reducible refine gate_dst (N := 3) rfl ?_);refine bE 3 #[.slice A1_0 l1_0.length c1_0] 24 ?_;intro gb160 hg w22 hbox hb;have BK160 := Aside0.mk (hbox);have GW160 := gBe HB hg;have GE160 := gBe HB hg;have NB159_160 := nL BK159 hg;have NB160_159 := nG BK159 hg;replace BK159 := lJ BK159 hb;replace HB := sBe HB hb;clear hb hbox hg)|((with_reducible refine gate_dst (N := 4) rfl ?_);refine bE 4 #[.int .i64 0, .int .i64 0] 27 ?_;intro gb161 hg w23 hbox hb;have BK161 := Aside0.mk (hbox);have GW161 := gBe HB hg;have GE161 := gBe HB hg;have NB159_161 := nL BK159 hg;have NB161_159 := nG BK159 hg;have NB160_161 := nL BK160 hg;have NB161_160 := nG BK160 hg;replace BK159 := lJ BK159 hb;replace BK160 := lJ BK160 hb;replace HB := sBe HB hb;clear hb hbox hg;have hnb24 := NB159_160.out;have hnc24 := NB160_159.out;have hnb25 := NB159_161.out;have hnc25 := NB161_159.out;have hcz26_0 := hC BK159 0 (.slice A0_0 l0_0.length c0_0);have hfz26_0 := blk_frozen BK159.out 0)|((with_reducible refine gate_callee (f := 19) rfl ?_);refine goesL_ (some 8) rfl rfl Try.func19 (by kernel_rfl) rfl #[.agg #[.slice A0_0 l0_0.length c0_0]] rfl mA ?_;(with_reducible refine (textpatch_Validate.calls _ _ l0_0 t162 t163 _ ?side1 ?side2 A3.out).mono ?_);(case side1 => exact cBe HR0_0);(case side2 => exact HC0_0.out);rintro e w27 ⟨rfl, hb⟩;refine ⟨_, rfl, ?_⟩;replace BK159 := lJ BK159 hb;replace BK160 := lJ BK160 hb;replace BK161 := lJ BK161 hb;replace HB := sBe HB hb;(try clear hb))|((with_reducible refine gate_dst (N := 5) rfl ?_);refine bE 5 #[.int .i64 0, .int .i64 0] 27 ?_;intro gb164 hg w28 hbox hb;have BK164 := Aside0.mk (hbox);have GW164 := gBe HB hg;have GE164 := gBe HB hg;have NB159_164 := nL BK159 hg;have NB164_159 := nG BK159 hg;have NB160_164 := nL BK160 hg;have NB164_160 := nG BK160 hg;have NB161_164 := nL BK161 hg;have NB164_161 := nG BK161 hg;replace BK159 := lJ BK159 hb;replace BK160 := lJ BK160 hb;replace BK161 := lJ BK161 hb;replace HB := sBe HB hb;clear hb hbox hg;have hnb29 := NB164_159.out;have hnc29 := NB159_164.out;have hnb30 := NB164_160.out;have hnc30 := NB160_164.out;have hnb31 := NB164_161.out;have hnc31 := NB161_164.out;have hcz32_0 := hC BK164 0 (.int .i64 0);have hcz32_1 := hC BK164 1 (.int .i64 0);have hfz32_0 := blk_frozen BK164.out 0;have hfz32_1 := blk_frozen BK164.out 1;have hnb33 := NB160_161.out;have hnc33 := NB161_160.out;have hcz34_0 := hC BK160 0 (.slice A1_0 l1_0.length c1_0);have hfz34_0 := blk_frozen BK160.out 0)|((with_reducible refine gate_callee (f := 19) rfl ?_);refine goesL_ (some 14) rfl rfl Try.func19 (by kernel_rfl) rfl #[.agg #[.slice A1_0 l1_0.length c1_0]] rfl mA ?_;(with_reducible refine (textpatch_Validate.calls _ _ l1_0 t165 t166 _ ?side1 ?side2 A19.out).mono ?_);(case side1 => exact Kd.C_below HR1_0.out eB);(case side2 => exact HC1_0.out);rintro e w35 ⟨rfl, hb⟩;refine ⟨_, rfl, ?_⟩;replace BK159 := lJ BK159 hb;replace BK160 := lJ BK160 hb;replace BK161 := lJ BK161 hb;replace BK164 := lK gb164 27 #[.int .i64 t162, .int .i64 t163] hb;replace HB := sBe HB hb;(try clear hb))|((with_reducible refine gate_dst (N := 6) rfl ?_);refine bE 6 #[.int .i64 0, .int .i64 0] 27 ?_;intro gb167 hg w36 hbox hb;have BK167 := Aside0.mk (hbox);have GW167 := gBe HB hg;have GE167 := gBe HB hg;have NB159_167 := nL BK159 hg;have NB167_159 := nG BK159 hg;have NB160_167 := nL BK160 hg;have NB167_160 := nG BK160 hg;have NB161_167 := nL BK161 hg;have NB167_161 := nG BK161 hg;have NB164_167 := nL BK164 hg;have NB167_164 := nG BK164 hg;replace BK159 := lJ BK159 hb;replace BK160 := lJ BK160 hb;replace BK161 := lJ BK161 hb;replace BK164 := lJ BK164 hb;replace HB := sBe HB hb;clear hb hbox hg;have hnb37 := NB167_159.out;have hnc37 := NB159_167.out;have hnb38 := NB167_160.out;have hnc38 := NB160_167.out;have hnb39 := NB167_161.out;have hnc39 := NB161_167.out;have hnb40 := NB167_164.out;have hnc40 := NB164_167.out;have hcz41_0 := hC BK167 0 (.int .i64 0);have hcz41_1 := hC BK167 1 (.int .i64 0);have hfz41_0 := blk_frozen BK167.out 0;have hfz41_1 := blk_frozen BK167.out 1;have hcz42_0 := hC BK161 0 (.int .i64 0);have hcz42_1 := hC BK161 1 (.int .i64 0);have hfz42_0 := blk_frozen BK161.out 0;have hfz42_1 := blk_frozen BK161.out 1))
      refine bodyPost_ret (results_cell_row rfl _ _ gb161 27 #[.int .i64 t165, .int .i64 (-2)] (0, 0) _ rfl kK Try.underlying27 rfl (by kernel_rfl)) rfl ?_;exact ⟨rW, eB⟩
    · rw [if_neg c20] at H;have c20b0 : (!(t165 == 0) || (!(t166 == 0))) = false := (by simpa using c20);clear c20;simp only [Option.some.injEq, Prod.mk.injEq] at H;obtain ⟨rfl, rfl⟩ := H
      go_enter Try.func50, Try.ntmps50
      go_wp2_with (first|((with_reducible refine gate_dst (N := 2) rfl ?_);refine bE 2 #[.slice A0_0 l0_0.length c0_0] 24 ?_;intro gb159 hg w43 hbox hb;have BK159 := Aside0.mk (hbox);have GW159 := gBe HB hg;have GE159 := gBe HB hg;replace HB := sBe HB hb;clear hb hbox hg)|((with_reducible refine gate_dst (N := 3) rfl ?_);refine bE 3 #[.slice A1_0 l1_0.length c1_0] 24 ?_;intro gb160 hg w44 hbox hb;have BK160 := Aside0.mk (hbox);have GW160 := gBe HB hg;have GE160 := gBe HB hg;have NB159_160 := nL BK159 hg;have NB160_159 := nG BK159 hg;replace BK159 := lJ BK159 hb;replace HB := sBe HB hb;clear hb hbox hg)|((with_reducible refine gate_dst (N := 4) rfl ?_);refine bE 4 #[.int .i64 0, .int .i64 0] 27 ?_;intro gb161 hg w45 hbox hb;have BK161 := Aside0.mk (hbox);have GW161 := gBe HB hg;have GE161 := gBe HB hg;have NB159_161 := nL BK159 hg;have NB161_159 := nG BK159 hg;have NB160_161 := nL BK160 hg;have NB161_160 := nG BK160 hg;replace BK159 := lJ BK159 hb;replace BK160 := lJ BK160 hb;replace HB := sBe HB hb;clear hb hbox hg;have hnb46 := NB159_160.out;have hnc46 := NB160_159.out;have hnb47 := NB159_161.out;have hnc47 := NB161_159.out;have hcz48_0 := hC BK159 0 (.slice A0_0 l0_0.length c0_0);have hfz48_0 := blk_frozen BK159.out 0)|((with_reducible refine gate_callee (f := 19) rfl ?_);refine goesL_ (some 8) rfl rfl Try.func19 (by kernel_rfl) rfl #[.agg #[.slice A0_0 l0_0.length c0_0]] rfl mA ?_;(with_reducible refine (textpatch_Validate.calls _ _ l0_0 t162 t163 _ ?side1 ?side2 A3.out).mono ?_);(case side1 => exact cBe HR0_0);(case side2 => exact HC0_0.out);rintro e w49 ⟨rfl, hb⟩;refine ⟨_, rfl, ?_⟩;replace BK159 := lJ BK159 hb;replace BK160 := lJ BK160 hb;replace BK161 := lJ BK161 hb;replace HB := sBe HB hb;(try clear hb))|((with_reducible refine gate_dst (N := 5) rfl ?_);refine bE 5 #[.int .i64 0, .int .i64 0] 27 ?_;intro gb164 hg w50 hbox hb;have BK164 := Aside0.mk (hbox);have GW164 := gBe HB hg;have GE164 := gBe HB hg;have NB159_164 := nL BK159 hg;have NB164_159 := nG BK159 hg;have NB160_164 := nL BK160 hg;have NB164_160 := nG BK160 hg;have NB161_164 := nL BK161 hg;have NB164_161 := nG BK161 hg;replace BK159 := lJ BK159 hb;replace BK160 := lJ BK160 hb;replace BK161 := lJ BK161 hb;replace HB := sBe HB hb;clear hb hbox hg;have hnb51 := NB164_159.out;have hnc51 := NB159_164.out;have hnb52 := NB164_160.out;have hnc52 := NB160_164.out;have hnb53 := NB164_161.out;have hnc53 := NB161_164.out;have hcz54_0 := hC BK164 0 (.int .i64 0);have hcz54_1 := hC BK164 1 (.int .i64 0);have hfz54_0 := blk_frozen BK164.out 0;have hfz54_1 := blk_frozen BK164.out 1;have hnb55 := NB160_161.out;have hnc55 := NB161_160.out;have hcz56_0 := hC BK160 0 (.slice A1_0 l1_0.length c1_0);have hfz56_0 := blk_frozen BK160.out 0)|((with_reducible refine gate_callee (f := 19) rfl ?_);refine goesL_ (some 14) rfl rfl Try.func19 (by kernel_rfl) rfl #[.agg #[.slice A1_0 l1_0.length c1_0]] rfl mA ?_;(with_reducible refine (textpatch_Validate.calls _ _ l1_0 t165 t166 _ ?side1 ?side2 A19.out).mono ?_);(case side1 => exact Kd.C_below HR1_0.out eB);(case side2 => exact HC1_0.out);rintro e w57 ⟨rfl, hb⟩;refine ⟨_, rfl, ?_⟩;replace BK159 := lJ BK159 hb;replace BK160 := lJ BK160 hb;replace BK161 := lJ BK161 hb;replace BK164 := lK gb164 27 #[.int .i64 t162, .int .i64 t163] hb;replace HB := sBe HB hb;(try clear hb))|((with_reducible refine gate_dst (N := 6) rfl ?_);refine bE 6 #[.int .i64 0, .int .i64 0] 27 ?_;intro gb167 hg w58 hbox hb;have BK167 := Aside0.mk (hbox);have GW167 := gBe HB hg;have GE167 := gBe HB hg;have NB159_167 := nL BK159 hg;have NB167_159 := nG BK159 hg;have NB160_167 := nL BK160 hg;have NB167_160 := nG BK160 hg;have NB161_167 := nL BK161 hg;have NB167_161 := nG BK161 hg;have NB164_167 := nL BK164 hg;have NB167_164 := nG BK164 hg;replace BK159 := lJ BK159 hb;replace BK160 := lJ BK160 hb;replace BK161 := lJ BK161 hb;replace BK164 := lJ BK164 hb;replace HB := sBe HB hb;clear hb hbox hg;have hnb59 := NB167_159.out;have hnc59 := NB159_167.out;have hnb60 := NB167_160.out;have hnc60 := NB160_167.out;have hnb61 := NB167_161.out;have hnc61 := NB161_167.out;have hnb62 := NB167_164.out;have hnc62 := NB164_167.out;have hcz63_0 := hC BK167 0 (.int .i64 0);have hcz63_1 := hC BK167 1 (.int .i64 0);have hfz63_0 := blk_frozen BK167.out 0;have hfz63_1 := blk_frozen BK167.out 1;have hcz64_0 := hC BK161 0 (.int .i64 0);have hcz64_1 := hC BK161 1 (.int .i64 0);have hfz64_0 := blk_frozen BK161.out 0;have hfz64_1 := blk_frozen BK161.out 1))
      refine bodyPost_ret (results_cell_row rfl _ _ gb161 27 #[.int .i64 0, .int .i64 0] (0, 0) _ rfl kK Try.underlying27 rfl (by kernel_rfl)) rfl ?_;exact ⟨rW, eB⟩

/-! ### commute_apart: function 64 -/
def commute_apart.f (a0_0 : Int) (a0_1 : Int) (a1_0 : Int) (a1_1 : Int) : Option (Bool) := if a0_1 < a1_0 then (some true) else (some (decide (a1_1 < a0_0)))
set_option maxHeartbeats 8000000 in
set_option maxRecDepth 100000 in
theorem commute_apart.calls (a0_0 : Int) (a0_1 : Int) (a1_0 : Int) (a1_1 : Int) (r : Bool) (w : World) (h : commute_apart.f a0_0 a0_1 a1_0 a1_1 = some r) :
    Calls Try.prog 64 #[.agg #[.int .i64 a0_0, .int .i64 a0_1], .agg #[.int .i64 a1_0, .int .i64 a1_1]] w fun e w' => e = .returned (.bool r) ∧ Below w.heap.size w w' := by
  have hu78 := Try.underlying78;have HB := Aside0.mk (Below.refl w.heap.size w);have H : (if a0_1 < a1_0 then (some true) else (some (decide (a1_1 < a0_0)))) = some r := h;clear h
  by_cases c3 : a0_1 < a1_0
  · rw [if_pos c3] at H;have c3b0 : decide (a0_1 < a1_0) = true := decide_eq_true c3;clear c3;obtain rfl := Option.some.inj H
    go_enter Try.func64, Try.ntmps64
    go_wp2_with (first|((with_reducible refine gate_dst (N := 2) rfl ?_);refine bE 2 #[.int .i64 a0_0, .int .i64 a0_1] 78 ?_;intro gb168 hg w4 hbox hb;have BK168 := Aside0.mk (hbox);have GW168 := gBe HB hg;have GE168 := gBe HB hg;replace HB := sBe HB hb;clear hb hbox hg)|((with_reducible refine gate_dst (N := 3) rfl ?_);refine bE 3 #[.int .i64 a1_0, .int .i64 a1_1] 78 ?_;intro gb169 hg w5 hbox hb;have BK169 := Aside0.mk (hbox);have GW169 := gBe HB hg;have GE169 := gBe HB hg;have NB168_169 := nL BK168 hg;have NB169_168 := nG BK168 hg;replace BK168 := lJ BK168 hb;replace HB := sBe HB hb;clear hb hbox hg;have hnb6 := NB168_169.out;have hnc6 := NB169_168.out;have hcz7_0 := hC BK168 0 (.int .i64 a0_0);have hcz7_1 := hC BK168 1 (.int .i64 a0_1);have hfz7_0 := blk_frozen BK168.out 0;have hfz7_1 := blk_frozen BK168.out 1;have hcz8_0 := hC BK169 0 (.int .i64 a1_0);have hcz8_1 := hC BK169 1 (.int .i64 a1_1);have hfz8_0 := blk_frozen BK169.out 0;have hfz8_1 := blk_frozen BK169.out 1))
    go_ret
    exact ⟨rW, eB⟩
  · rw [if_neg c3] at H;have c3b0 : decide (a0_1 < a1_0) = false := decide_eq_false c3;clear c3;obtain rfl := Option.some.inj H
    go_enter Try.func64, Try.ntmps64
    go_wp2_with (first|((with_reducible refine gate_dst (N := 2) rfl ?_);refine bE 2 #[.int .i64 a0_0, .int .i64 a0_1] 78 ?_;intro gb168 hg w9 hbox hb;have BK168 := Aside0.mk (hbox);have GW168 := gBe HB hg;have GE168 := gBe HB hg;replace HB := sBe HB hb;clear hb hbox hg)|((with_reducible refine gate_dst (N := 3) rfl ?_);refine bE 3 #[.int .i64 a1_0, .int .i64 a1_1] 78 ?_;intro gb169 hg w10 hbox hb;have BK169 := Aside0.mk (hbox);have GW169 := gBe HB hg;have GE169 := gBe HB hg;have NB168_169 := nL BK168 hg;have NB169_168 := nG BK168 hg;replace BK168 := lJ BK168 hb;replace HB := sBe HB hb;clear hb hbox hg;have hnb11 := NB168_169.out;have hnc11 := NB169_168.out;have hcz12_0 := hC BK168 0 (.int .i64 a0_0);have hcz12_1 := hC BK168 1 (.int .i64 a0_1);have hfz12_0 := blk_frozen BK168.out 0;have hfz12_1 := blk_frozen BK168.out 1;have hcz13_0 := hC BK169 0 (.int .i64 a1_0);have hcz13_1 := hC BK169 1 (.int .i64 a1_1);have hfz13_0 := blk_frozen BK169.out 0;have hfz13_1 := blk_frozen BK169.out 1))
    go_ret
    exact ⟨rW, eB⟩

/-! ### commute_independent: function 51 -/
mutual
def commute_independent.l0 : Nat → List (S78) → List (S78) → Int → Int → Option (Bool)
  | 0, _, _, _, _ => none
  | k + 1, x1, x9, x10, x11 => if x11 < x10 then (if 0 ≤ x11 then (if x11 < (x9.length : Int) then (commute_independent.l1 k x1 x9 x10 x11 x1 (x1.length : Int) 0 ((rd_T78 x9 x11).f0) ((rd_T78 x9 x11).f1)) else (none)) else (none)) else (some true)
def commute_independent.l1 : Nat → List (S78) → List (S78) → Int → Int → List (S78) → Int → Int → Int → Int → Option (Bool)
  | 0, _, _, _, _, _, _, _, _, _ => none
  | k + 1, x1, x9, x10, x11, x15, x16, x17, x172000, x172001 => if x17 < x16 then (if 0 ≤ x17 then (if x17 < (x15.length : Int) then ((commute_apart.f x172000 x172001 ((rd_T78 x15 x17).f0) ((rd_T78 x15 x17).f1)).bind fun t174 => (if t174 = true then (commute_independent.l1 k x1 x9 x10 x11 x15 x16 (wrap64 (x17 + 1)) x172000 x172001) else (some false))) else (none)) else (none)) else (commute_independent.l0 k x1 x9 x10 (wrap64 (x11 + 1)))
end
def commute_independent.f (k : Nat) (l0 : List (S78)) (l1 : List (S78)) : Option (Bool) := commute_independent.l0 k l1 l0 (l0.length : Int) 0
theorem commute_independent.mono_l : ∀ k, (∀ y0 y1 y2 y3, LeO (commute_independent.l0 k y0 y1 y2 y3) (commute_independent.l0 (k + 1) y0 y1 y2 y3)) ∧ (∀ y0 y1 y2 y3 y4 y5 y6 y7 y8, LeO (commute_independent.l1 k y0 y1 y2 y3 y4 y5 y6 y7 y8) (commute_independent.l1 (k + 1) y0 y1 y2 y3 y4 y5 y6 y7 y8))
  | 0 => ⟨fun _ _ _ _ r h => by simp [commute_independent.l0] at h, fun _ _ _ _ _ _ _ _ _ r h => by simp [commute_independent.l1] at h⟩
  | k + 1 => by
    obtain ⟨ih0, ih1⟩ := commute_independent.mono_l k;refine ⟨?_, ?_⟩
    · intro y0 y1 y2 y3
      unfold commute_independent.l0
      repeat' first
      | (with_reducible exact ih0 _ _ _ _)
      | (with_reducible exact ih1 _ _ _ _ _ _ _ _ _)
      | (with_reducible exact LeO.refl _)
      | (with_reducible exact LeO.none _)
      | (with_reducible refine LeO.ite ?_ ?_)
      | (with_reducible refine LeO.bind ?_ (fun _ => ?_))
      | exact ih0 _ _ _ _
      | exact ih1 _ _ _ _ _ _ _ _ _
      | exact LeO.none _
      | refine LeO.ite ?_ ?_
      | refine LeO.bind ?_ (fun _ => ?_)
    · intro y0 y1 y2 y3 y4 y5 y6 y7 y8
      unfold commute_independent.l1
      repeat' first
      | (with_reducible exact ih0 _ _ _ _)
      | (with_reducible exact ih1 _ _ _ _ _ _ _ _ _)
      | (with_reducible exact LeO.refl _)
      | (with_reducible exact LeO.none _)
      | (with_reducible refine LeO.ite ?_ ?_)
      | (with_reducible refine LeO.bind ?_ (fun _ => ?_))
      | exact ih0 _ _ _ _
      | exact ih1 _ _ _ _ _ _ _ _ _
      | exact LeO.none _
      | refine LeO.ite ?_ ?_
      | refine LeO.bind ?_ (fun _ => ?_)
theorem commute_independent.mono : ∀ a0 a1 k, LeO (commute_independent.f k a0 a1) (commute_independent.f (k + 1) a0 a1) := by
  intro a0 a1 k
  obtain ⟨ih0, ih1⟩ := commute_independent.mono_l k
  unfold commute_independent.f
  repeat' first
      | (with_reducible exact ih0 _ _ _ _)
      | (with_reducible exact ih1 _ _ _ _ _ _ _ _ _)
      | (with_reducible exact LeO.refl _)
      | (with_reducible exact LeO.none _)
      | (with_reducible refine LeO.ite ?_ ?_)
      | (with_reducible refine LeO.bind ?_ (fun _ => ?_))
      | exact ih0 _ _ _ _
      | exact ih1 _ _ _ _ _ _ _ _ _
      | exact LeO.none _
      | refine LeO.ite ?_ ?_
      | refine LeO.bind ?_ (fun _ => ?_)
set_option maxHeartbeats 8000000 in
set_option maxRecDepth 100000 in
theorem commute_independent.calls (k : Nat) (A0 : Option Addr) (c0 : Nat) (l0 : List (S78)) (A1 : Option Addr) (c1 : Nat) (l1 : List (S78)) (r : Bool) (w : World) (hr0 : Kd.C k78 w A0 l0.length l0) (hc0 : l0.length ≤ c0) (hr1 : Kd.C k78 w A1 l1.length l1) (hc1 : l1.length ≤ c1) (h : commute_independent.f k l0 l1 = some r) :
    Calls Try.prog 51 #[.slice A0 l0.length c0, .slice A1 l1.length c1] w fun e w' => e = .returned (.bool r) ∧ Below w.heap.size w w' := by
  have hu78 := Try.underlying78;have HR0 := Aside0.mk hr0;have HC0 := Aside0.mk hc0;clear hr0 hc0;have HR1 := Aside0.mk hr1;have HC1 := Aside0.mk hc1;clear hr1 hc1;have HB := Aside0.mk (Below.refl w.heap.size w);have H : (commute_independent.l0 k l1 l0 (l0.length : Int) 0) = some r := h;clear h;have H' := Aside0.mk H;clear H
  go_enter Try.func51, Try.ntmps51
  go_wp2
  go_loopg [11] k (fun kq v11 w' => ∃ (x11_1 : Int), v11 = .int .i64 x11_1 ∧ Aside0 (commute_independent.l0 kq l1 l0 (l0.length : Int) x11_1 = some r) ∧ Aside0 (kq ≤ k) ∧ Aside0 (Below w.heap.size w w'))
  case atStart => exact ⟨(0), (by first|rfl|(simp only [i64_w, i32_w];done)|(simp only [i64_w, i32_w];rfl)|(simp;done)|(simp [*];done)), H', ⟨Nat.le_refl _⟩, ⟨eB⟩⟩
  case round =>
    clear H'
    try clear c1
    try clear p2
    obtain ⟨x11_1, rfl, HA, HK1, HB⟩ := hrel
    cases gk with
    | zero => exact absurd HA.out (by simp [commute_independent.l0])
    | succ k1 =>
      have H := HA.out;clear HA;simp only [commute_independent.l0] at H
      by_cases c3 : x11_1 < (l0.length : Int)
      · rw [if_pos c3] at H;have c3b0 : decide (x11_1 < (l0.length : Int)) = true := decide_eq_true c3;clear c3
        by_cases c4 : 0 ≤ x11_1
        · rw [if_pos c4] at H;have c4b0 : decide (0 ≤ x11_1) = true := decide_eq_true c4;clear c4
          by_cases c5 : x11_1 < (l0.length : Int)
          · rw [if_pos c5] at H;have c5b0 : decide (x11_1 < (l0.length : Int)) = true := decide_eq_true c5;clear c5;have H' := Aside0.mk H;clear H;have p170 : 0 ≤ (x11_1 : Int) := dA;have q170 : x11_1 < (l0.length : Int) := dA;obtain ⟨ad170, e170, hx170_0, hx170_1⟩ := at_T78 HR0.out x11_1 p170 q170
            cases e170
            replace hx170_0 := (hX HB hx170_0:);replace hx170_1 := (hX HB hx170_1:);replace p170 := eq_true p170;replace q170 := eq_true q170
            go_wp2_with (first|((with_reducible refine gate_dst (N := 6) rfl ?_);refine bE 6 #[.int .i64 0, .int .i64 0] 78 ?_;intro gb171 hg w6 hbox hb;have BK171 := Aside0.mk (hbox);have GW171 := gBe HB hg;have GE171 := gBe HB hg;replace HB := sBe HB hb;clear hb hbox hg;have hcz7_0 := hC BK171 0 (.int .i64 0);have hcz7_1 := hC BK171 1 (.int .i64 0);have hfz7_0 := blk_frozen BK171.out 0;have hfz7_1 := blk_frozen BK171.out 1))
            go_loopg [17] k1 (fun kq v17 w' => ∃ (x17_2 : Int), v17 = .int .i64 x17_2 ∧ Aside0 (commute_independent.l1 kq l1 l0 (l0.length : Int) x11_1 l1 (l1.length : Int) x17_2 ((rd_T78 l0 x11_1).f0) ((rd_T78 l0 x11_1).f1) = some r) ∧ Aside0 (kq ≤ k1) ∧ Bk w' gb171 78 #[.int .i64 ((rd_T78 l0 x11_1).f0), .int .i64 ((rd_T78 l0 x11_1).f1)] ∧ Aside0 (Below w.heap.size w w'))
            case atStart => exact ⟨(0), (by first|rfl|(simp only [i64_w, i32_w];done)|(simp only [i64_w, i32_w];rfl)|(simp;done)|(simp [*];done)), H', ⟨Nat.le_refl _⟩, ⟨kK⟩, ⟨eB⟩⟩
            case round =>
              clear H'
              try clear c1
              try clear p1
              try clear q1
              try clear hx1
              try clear p2
              try clear c3
              try clear c3b0
              try clear c4
              try clear c4b0
              try clear c5
              try clear c5b0
              try clear hcz7_0
              try clear hcz7_1
              try clear hfz7_0
              try clear hfz7_1
              try clear hx170_0
              try clear hx170_1
              try clear p170
              try clear p2
              try clear q170
              obtain ⟨x17_2, rfl, HA, HK2, BK171, HB⟩ := hrel
              cases gk with
              | zero => exact absurd HA.out (by simp [commute_independent.l1])
              | succ k2 =>
                have H := HA.out;clear HA;simp only [commute_independent.l1] at H
                by_cases c8 : x17_2 < (l1.length : Int)
                · rw [if_pos c8] at H;have c8b0 : decide (x17_2 < (l1.length : Int)) = true := decide_eq_true c8;clear c8
                  by_cases c9 : 0 ≤ x17_2
                  · rw [if_pos c9] at H;have c9b0 : decide (0 ≤ x17_2) = true := decide_eq_true c9;clear c9
                    by_cases c10 : x17_2 < (l1.length : Int)
                    · rw [if_pos c10] at H;have c10b0 : decide (x17_2 < (l1.length : Int)) = true := decide_eq_true c10;clear c10;replace H := Option.bind_eq_some_iff.mp H;obtain ⟨t174, A110, H⟩ := H;replace H : (if t174 = true then (commute_independent.l1 k2 l1 l0 (l0.length : Int) x11_1 l1 (l1.length : Int) (wrap64 (x17_2 + 1)) ((rd_T78 l0 x11_1).f0) ((rd_T78 l0 x11_1).f1)) else (some false)) = some r := H;have A11 := Aside0.mk A110;clear A110
                      by_cases c12 : t174 = true
                      · subst c12;have H1 : (commute_independent.l1 k2 l1 l0 (l0.length : Int) x11_1 l1 (l1.length : Int) (wrap64 (x17_2 + 1)) ((rd_T78 l0 x11_1).f0) ((rd_T78 l0 x11_1).f1)) = some r := (by rw [if_pos rfl] at H;exact H);clear H;have H := H1;clear H1;have H' := Aside0.mk H;clear H;have p172 : 0 ≤ (x17_2 : Int) := dA;have q172 : x17_2 < (l1.length : Int) := dA;obtain ⟨ad172, e172, hx172_0, hx172_1⟩ := at_T78 HR1.out x17_2 p172 q172
                        cases e172
                        replace hx172_0 := (hX HB hx172_0:);replace hx172_1 := (hX HB hx172_1:);replace p172 := eq_true p172;replace q172 := eq_true q172
                        go_wp2_with (first|((with_reducible refine gate_dst (N := 8) rfl ?_);refine bE 8 #[.int .i64 0, .int .i64 0] 78 ?_;intro gb173 hg w13 hbox hb;have BK173 := Aside0.mk (hbox);have GW173 := gBe HB hg;have GE173 := gBe HB hg;have NB171_173 := nL BK171 hg;have NB173_171 := nG BK171 hg;replace BK171 := lJ BK171 hb;replace HB := sBe HB hb;clear hb hbox hg;have hnb14 := NB173_171.out;have hnc14 := NB171_173.out;have hcz15_0 := hC BK173 0 (.int .i64 0);have hcz15_1 := hC BK173 1 (.int .i64 0);have hfz15_0 := blk_frozen BK173.out 0;have hfz15_1 := blk_frozen BK173.out 1;have hcz16_0 := hC BK171 0 (.int .i64 ((rd_T78 l0 x11_1).f0));have hcz16_1 := hC BK171 1 (.int .i64 ((rd_T78 l0 x11_1).f1));have hfz16_0 := blk_frozen BK171.out 0;have hfz16_1 := blk_frozen BK171.out 1)|((with_reducible refine gate_callee (f := 64) rfl ?_);refine goesL_ (some 23) rfl rfl Try.func64 (by kernel_rfl) rfl #[.agg #[.int .i64 ((rd_T78 l0 x11_1).f0), .int .i64 ((rd_T78 l0 x11_1).f1)], .agg #[.int .i64 ((rd_T78 l1 x17_2).f0), .int .i64 ((rd_T78 l1 x17_2).f1)]] rfl mA ?_;(with_reducible refine (commute_apart.calls ((rd_T78 l0 x11_1).f0) ((rd_T78 l0 x11_1).f1) ((rd_T78 l1 x17_2).f0) ((rd_T78 l1 x17_2).f1) true _ A11.out).mono ?_);rintro e w17 ⟨rfl, hb⟩;refine ⟨_, rfl, ?_⟩;replace BK171 := lJ BK171 hb;replace BK173 := lK gb173 78 #[.int .i64 ((rd_T78 l1 x17_2).f0), .int .i64 ((rd_T78 l1 x17_2).f1)] hb;replace HB := sBe HB hb;(try clear hb)))
                        go_roundg k2
                        case measure => have := HK1.out;have := HK2.out;omega
                        case rel => exact ⟨(wrap64 (x17_2 + 1)), (by first|rfl|(simp only [i64_w, i32_w];done)|(simp only [i64_w, i32_w];rfl)|(simp;done)|(simp [*];done)), H', ⟨by have := HK1.out;have := HK2.out;omega⟩, ⟨kK⟩, ⟨eB⟩⟩
                      · replace c12 := Bool.eq_false_iff.mpr c12;subst c12;have H1 : (some false) = some r := (by rw [if_neg (show ¬ (false = true) by decide)] at H;exact H);clear H;have H := H1;clear H1;obtain rfl := Option.some.inj H;have p172 : 0 ≤ (x17_2 : Int) := dA;have q172 : x17_2 < (l1.length : Int) := dA;obtain ⟨ad172, e172, hx172_0, hx172_1⟩ := at_T78 HR1.out x17_2 p172 q172
                        cases e172
                        replace hx172_0 := (hX HB hx172_0:);replace hx172_1 := (hX HB hx172_1:);replace p172 := eq_true p172;replace q172 := eq_true q172
                        go_wp2_with (first|((with_reducible refine gate_dst (N := 8) rfl ?_);refine bE 8 #[.int .i64 0, .int .i64 0] 78 ?_;intro gb173 hg w18 hbox hb;have BK173 := Aside0.mk (hbox);have GW173 := gBe HB hg;have GE173 := gBe HB hg;have NB171_173 := nL BK171 hg;have NB173_171 := nG BK171 hg;replace BK171 := lJ BK171 hb;replace HB := sBe HB hb;clear hb hbox hg;have hnb19 := NB173_171.out;have hnc19 := NB171_173.out;have hcz20_0 := hC BK173 0 (.int .i64 0);have hcz20_1 := hC BK173 1 (.int .i64 0);have hfz20_0 := blk_frozen BK173.out 0;have hfz20_1 := blk_frozen BK173.out 1;have hcz21_0 := hC BK171 0 (.int .i64 ((rd_T78 l0 x11_1).f0));have hcz21_1 := hC BK171 1 (.int .i64 ((rd_T78 l0 x11_1).f1));have hfz21_0 := blk_frozen BK171.out 0;have hfz21_1 := blk_frozen BK171.out 1)|((with_reducible refine gate_callee (f := 64) rfl ?_);refine goesL_ (some 23) rfl rfl Try.func64 (by kernel_rfl) rfl #[.agg #[.int .i64 ((rd_T78 l0 x11_1).f0), .int .i64 ((rd_T78 l0 x11_1).f1)], .agg #[.int .i64 ((rd_T78 l1 x17_2).f0), .int .i64 ((rd_T78 l1 x17_2).f1)]] rfl mA ?_;(with_reducible refine (commute_apart.calls ((rd_T78 l0 x11_1).f0) ((rd_T78 l0 x11_1).f1) ((rd_T78 l1 x17_2).f0) ((rd_T78 l1 x17_2).f1) false _ A11.out).mono ?_);rintro e w22 ⟨rfl, hb⟩;refine ⟨_, rfl, ?_⟩;replace BK171 := lJ BK171 hb;replace BK173 := lK gb173 78 #[.int .i64 ((rd_T78 l1 x17_2).f0), .int .i64 ((rd_T78 l1 x17_2).f1)] hb;replace HB := sBe HB hb;(try clear hb)))
                        go_ret
                        exact ⟨rW, eB⟩
                    · rw [if_neg c10] at H;exact absurd H (by simp)
                  · rw [if_neg c9] at H;exact absurd H (by simp)
                · rw [if_neg c8] at H;have c8b0 : decide (x17_2 < (l1.length : Int)) = false := decide_eq_false c8;clear c8;have H' := Aside0.mk H;clear H
                  go_wp2
                  go_roundg k2
                  case measure => have := HK1.out;have := HK2.out;omega
                  case rel => exact ⟨(wrap64 (x11_1 + 1)), (by first|rfl|(simp only [i64_w, i32_w];done)|(simp only [i64_w, i32_w];rfl)|(simp;done)|(simp [*];done)), H', ⟨by have := HK1.out;have := HK2.out;omega⟩, ⟨eB⟩⟩
          · rw [if_neg c5] at H;exact absurd H (by simp)
        · rw [if_neg c4] at H;exact absurd H (by simp)
      · rw [if_neg c3] at H;have c3b0 : decide (x11_1 < (l0.length : Int)) = false := decide_eq_false c3;clear c3;obtain rfl := Option.some.inj H
        go_wp2
        go_ret
        exact ⟨rW, eB⟩

/-! ### commute_news: function 52 -/
def commute_news.l0 : Nat → List (S78) → Int → List (S47) → Int → Int → Option ((List (S78)))
  | 0, _, _, _, _, _ => none
  | k + 1, x3, x4, x8, x9, x10 => if x10 < x9 then (if 0 ≤ x10 then (if x10 < (x8.length : Int) then (if x3.length < 8796093022208 then (commute_news.l0 k (x3 ++ [(⟨wrap64 (((rd_T47 x8 x10).f0) + x4), wrap64 ((wrap64 (((rd_T47 x8 x10).f0) + x4)) + (((rd_T47 x8 x10).f2).length : Int))⟩ : S78)]) (wrap64 (x4 + (wrap64 ((((rd_T47 x8 x10).f2).length : Int) - (((rd_T47 x8 x10).f1).length : Int))))) x8 x9 (wrap64 (x10 + 1))) else (none)) else (none)) else (none)) else (some x3)
def commute_news.f (k : Nat) (l0_0 : List (S47)) : Option ((List (S78))) := commute_news.l0 k ([] : List (S78)) 0 l0_0 (l0_0.length : Int) 0
theorem commute_news.mono_l : ∀ k, (∀ y0 y1 y2 y3 y4, LeO (commute_news.l0 k y0 y1 y2 y3 y4) (commute_news.l0 (k + 1) y0 y1 y2 y3 y4))
  | 0 => fun _ _ _ _ _ r h => by simp [commute_news.l0] at h
  | k + 1 => by
    have ih0 := commute_news.mono_l k
    · intro y0 y1 y2 y3 y4
      unfold commute_news.l0
      repeat' first
      | (with_reducible exact ih0 _ _ _ _ _)
      | (with_reducible exact LeO.refl _)
      | (with_reducible exact LeO.none _)
      | (with_reducible refine LeO.ite ?_ ?_)
      | (with_reducible refine LeO.bind ?_ (fun _ => ?_))
      | exact ih0 _ _ _ _ _
      | exact LeO.none _
      | refine LeO.ite ?_ ?_
      | refine LeO.bind ?_ (fun _ => ?_)
theorem commute_news.mono : ∀ a0 k, LeO (commute_news.f k a0) (commute_news.f (k + 1) a0) := by
  intro a0 k
  have ih0 := commute_news.mono_l k
  unfold commute_news.f
  repeat' first
      | (with_reducible exact ih0 _ _ _ _ _)
      | (with_reducible exact LeO.refl _)
      | (with_reducible exact LeO.none _)
      | (with_reducible refine LeO.ite ?_ ?_)
      | (with_reducible refine LeO.bind ?_ (fun _ => ?_))
      | exact ih0 _ _ _ _ _
      | exact LeO.none _
      | refine LeO.ite ?_ ?_
      | refine LeO.bind ?_ (fun _ => ?_)
set_option maxHeartbeats 8000000 in
set_option maxRecDepth 100000 in
theorem commute_news.calls (k : Nat) (A0_0 : Option Addr) (c0_0 : Nat) (l0_0 : List (S47)) (r : List (S78)) (w : World) (hr0_0 : Kd.C k47 w A0_0 l0_0.length l0_0) (hc0_0 : l0_0.length ≤ c0_0) (h : commute_news.f k l0_0 = some r) :
    Calls Try.prog 52 #[.agg #[.slice A0_0 l0_0.length c0_0]] w fun e w' => ∃ v0_ : Value, e = .returned (v0_) ∧ Kd.R k78 78 w' w.heap.size (fun _ => True) v0_ r ∧ Below w.heap.size w w' := by
  have hu24 := Try.underlying24;have hu47 := Try.underlying47;have hu78 := Try.underlying78;have HR0_0 := Aside0.mk hr0_0;have HC0_0 := Aside0.mk hc0_0;clear hr0_0 hc0_0;have HB := Aside0.mk (Below.refl w.heap.size w);have H : (commute_news.l0 k ([] : List (S78)) 0 l0_0 (l0_0.length : Int) 0) = some r := h;clear h;have H' := Aside0.mk H;clear H
  go_enter Try.func52, Try.ntmps52
  go_wp2_with (first|((with_reducible refine gate_dst (N := 1) rfl ?_);refine bE 1 #[.slice A0_0 l0_0.length c0_0] 24 ?_;intro gb175 hg w2 hbox hb;have BK175 := Aside0.mk (hbox);have GW175 := gBe HB hg;have GE175 := gBe HB hg;replace HB := sBe HB hb;clear hb hbox hg;have hcz3_0 := hC BK175 0 (.slice A0_0 l0_0.length c0_0);have hfz3_0 := blk_frozen BK175.out 0))
  go_loopg [3, 4, 10] k (fun kq v3 v4 v10 w' => ∃ (x3_1 : List (S78)) (x4_1 : Int) (x10_1 : Int), v4 = .int .i64 x4_1 ∧ v10 = .int .i64 x10_1 ∧ Aside0 (commute_news.l0 kq x3_1 x4_1 l0_0 (l0_0.length : Int) x10_1 = some r) ∧ Aside0 (kq ≤ k) ∧ Aside0 (Kd.R k78 78 w' w.heap.size (fun _ => True) v3 x3_1) ∧ Bk w' gb175 24 #[(.slice A0_0 l0_0.length c0_0)] ∧ Aside0 (Below w.heap.size w w'))
  case atStart => exact ⟨(([] : List (S78))), (0), (0), (by first|rfl|(simp only [i64_w, i32_w];done)|(simp only [i64_w, i32_w];rfl)|(simp;done)|(simp [*];done)), (by first|rfl|(simp only [i64_w, i32_w];done)|(simp only [i64_w, i32_w];rfl)|(simp;done)|(simp [*];done)), H', ⟨Nat.le_refl _⟩, ⟨by first|exact Kd.R_nil _ _ _ _ _|exact Kd.N_nil _ _ _ _ _|exact Kd.V_nil _ _ _ _ _|exact Kd.Q_nil _ _ _ _ _|exact Kd.S_nil _ _ _ _ _⟩, ⟨kK⟩, ⟨eB⟩⟩
  case round =>
    clear H'
    try clear p2
    try clear hcz3_0
    try clear hfz3_0
    obtain ⟨x3_1, x4_1, x10_1, rfl, rfl, HA, HK1, HO_3, BK175, HB⟩ := hrel
    cases gk with
    | zero => exact absurd HA.out (by simp [commute_news.l0])
    | succ k1 =>
      have H := HA.out;clear HA;simp only [commute_news.l0] at H
      by_cases c4 : x10_1 < (l0_0.length : Int)
      · rw [if_pos c4] at H;have c4b0 : decide (x10_1 < (l0_0.length : Int)) = true := decide_eq_true c4;clear c4
        by_cases c5 : 0 ≤ x10_1
        · rw [if_pos c5] at H;have c5b0 : decide (0 ≤ x10_1) = true := decide_eq_true c5;clear c5
          by_cases c6 : x10_1 < (l0_0.length : Int)
          · rw [if_pos c6] at H;have c6b0 : decide (x10_1 < (l0_0.length : Int)) = true := decide_eq_true c6;clear c6
            by_cases c7 : x3_1.length < 8796093022208
            · rw [if_pos c7] at H;have LMc7 := Aside0.mk c7;clear c7;obtain ⟨y178, hy178⟩ : ∃ y_ : List (S78), y_ = (x3_1 ++ [(⟨wrap64 (((rd_T47 l0_0 x10_1).f0) + x4_1), wrap64 ((wrap64 (((rd_T47 l0_0 x10_1).f0) + x4_1)) + (((rd_T47 l0_0 x10_1).f2).length : Int))⟩ : S78)]) := ⟨_, rfl⟩;replace H : (commute_news.l0 k1 y178 (wrap64 (x4_1 + (wrap64 ((((rd_T47 l0_0 x10_1).f2).length : Int) - (((rd_T47 l0_0 x10_1).f1).length : Int))))) l0_0 (l0_0.length : Int) (wrap64 (x10_1 + 1))) = some r := (by first|(rw [hy178];with_reducible exact H)|(have H2_ := (Option.bind_some _ _).symm.trans H;rw [hy178];with_reducible exact H2_)|(have H2_ := (Option.bind_some _ _).symm.trans H;with_reducible exact H2_)|with_reducible exact H|(rw [hy178];exact H)|exact H);have Ny178 := Aside0.mk hy178;clear hy178;have H' := Aside0.mk H;clear H;have p176 : 0 ≤ (x10_1 : Int) := dA;have q176 : x10_1 < (l0_0.length : Int) := dA;obtain ⟨ad176, A176_1, c176_1, A176_2, c176_2, e176, hx176_0, hx176_1, hx176_2, hl176_1, hi176_1, hl176_2, hi176_2⟩ := at_T47 HR0_0.out x10_1 p176 q176
              cases e176
              replace hx176_0 := (hX HB hx176_0:);replace hx176_1 := (hX HB hx176_1:);replace hx176_2 := (hX HB hx176_2:);have HR176_1 := Aside0.mk hi176_1;have HC176_1 := Aside0.mk hl176_1;clear hi176_1 hl176_1;have HR176_2 := Aside0.mk hi176_2;have HC176_2 := Aside0.mk hl176_2;clear hi176_2 hl176_2;replace p176 := eq_true p176;replace q176 := eq_true q176
              go_wp2_with (first|((with_reducible refine gate_dst (N := 6) rfl ?_);refine bE 6 #[.int .i64 0, .slice none 0 0, .slice none 0 0] 47 ?_;intro gb177 hg w8 hbox hb;have BK177 := Aside0.mk (hbox);have GW177 := gBe HB hg;have GE177 := gBe HB hg;have NB175_177 := nL BK175 hg;have NB177_175 := nG BK175 hg;replace HO_3 := rL HO_3 hb;replace BK175 := lJ BK175 hb;replace HB := sBe HB hb;clear hb hbox hg;have hnb9 := NB177_175.out;have hnc9 := NB175_177.out;have hcz10_0 := hC BK177 0 (.int .i64 0);have hcz10_1 := hC BK177 1 (.slice none 0 0);have hcz10_2 := hC BK177 2 (.slice none 0 0);have hfz10_0 := blk_frozen BK177.out 0;have hfz10_1 := blk_frozen BK177.out 1;have hfz10_2 := blk_frozen BK177.out 2)|((with_reducible refine gate_builtin (b := .append) (xs := #[.tmp 14, .tmp 28]) rfl ?_);at_builtin;refine Kd.R_append k78 (w0 := w) w.heap.size rfl (.tmp 14) (.tmp 28) 63 78 (.agg #[(.int .i64 0), (.int .i64 0)]) 16 rfl Try.underlying63 info78 rfl (by decide) (by omega) u3 x3_1 (⟨wrap64 (((rd_T47 l0_0 x10_1).f0) + x4_1), wrap64 ((wrap64 (((rd_T47 l0_0 x10_1).f0) + x4_1)) + (((rd_T47 l0_0 x10_1).f2).length : Int))⟩ : S78) [.int .i64 (wrap64 (((rd_T47 l0_0 x10_1).f0) + x4_1)), .int .i64 (wrap64 ((wrap64 (((rd_T47 l0_0 x10_1).f0) + x4_1)) + (((rd_T47 l0_0 x10_1).f2).length : Int)))] (fun _ => True) (fun _ => False) rfl (by first|(go_simp;done)|(go_simp;rfl)) ?aP (fun _ hk => hk.elim) ?aF ?aO ?aB ?aS ?aL ?_;(case aP => exact k78_mkM _ _ _ (⟨wrap64 (((rd_T47 l0_0 x10_1).f0) + x4_1), wrap64 ((wrap64 (((rd_T47 l0_0 x10_1).f0) + x4_1)) + (((rd_T47 l0_0 x10_1).f2).length : Int))⟩ : S78));(case aB => exact eB);(case aF => exact (fun _ _ => trivial));(case aO => exact (by (with_reducible repeat first|apply rA|apply rN|apply rD);exact Kd.R_mono (Kd.R_far (p := ⟨gb177, 2, none⟩) (Kd.R_far (p := ⟨gb177, 1, none⟩) (Kd.R_far (p := ⟨gb177, 0, none⟩) (Kd.R_types HO_3.out BK177.out (by decide)) (fun _ hk => hk.2) (.int .i64 ((rd_T47 l0_0 x10_1).f0))) (fun _ hk => hk.2) (.slice A176_1 ((rd_T47 l0_0 x10_1).f1).length c176_1)) (fun _ hk => hk.2) (.slice A176_2 ((rd_T47 l0_0 x10_1).f2).length c176_2)) (fun _ hk => trivial)));(case aS => exact (below_size eB));(case aL => have := LMc7.out;omega);intro v179 w11 ho hb hg hat;rw [← Ny178.out] at ho;have n0_ := Aside0.mk (blk_grown (g := gb175) (o := .cells #[.slice (some ad176) l0_0.length c0_0] 24 (0, 0)) kK hg (Kd.R_ne HO_3.out BK175.out (by decide)));have n1_ := Aside0.mk (blk_grown (g := gb177) (o := .cells #[.int .i64 ((rd_T47 l0_0 x10_1).f0), .slice A176_1 ((rd_T47 l0_0 x10_1).f1).length c176_1, .slice A176_2 ((rd_T47 l0_0 x10_1).f2).length c176_2] 47 (0, 0)) kK hg (Kd.R_ne HO_3.out BK177.out (by decide)));have n2_ := Aside0.mk (hb);have n3_ := Aside0.mk (ho);clear BK175;clear BK177;clear HB;clear HO_3;have BK175 := n0_;have BK177 := n1_;have HB := n2_;have HO180 := n3_;clear n0_ n1_ n2_ n3_;clear ho hb hg hat;have hcz12_0 := hC BK177 0 (.int .i64 ((rd_T47 l0_0 x10_1).f0));have hcz12_1 := hC BK177 1 (.slice A176_1 ((rd_T47 l0_0 x10_1).f1).length c176_1);have hcz12_2 := hC BK177 2 (.slice A176_2 ((rd_T47 l0_0 x10_1).f2).length c176_2);have hfz12_0 := blk_frozen BK177.out 0;have hfz12_1 := blk_frozen BK177.out 1;have hfz12_2 := blk_frozen BK177.out 2))
              go_roundg k1
              case measure => have := HK1.out;omega
              case rel => exact ⟨(y178), (wrap64 (x4_1 + (wrap64 ((((rd_T47 l0_0 x10_1).f2).length : Int) - (((rd_T47 l0_0 x10_1).f1).length : Int))))), (wrap64 (x10_1 + 1)), (by first|rfl|(simp only [i64_w, i32_w];done)|(simp only [i64_w, i32_w];rfl)|(simp;done)|(simp [*];done)), (by first|rfl|(simp only [i64_w, i32_w];done)|(simp only [i64_w, i32_w];rfl)|(simp;done)|(simp [*];done)), H', ⟨by have := HK1.out;omega⟩, ⟨by (with_reducible repeat first|apply rA|apply rN|apply rD);exact HO180.out⟩, ⟨kK⟩, ⟨eB⟩⟩
            · rw [if_neg c7] at H;exact absurd H (by simp)
          · rw [if_neg c6] at H;exact absurd H (by simp)
        · rw [if_neg c5] at H;exact absurd H (by simp)
      · rw [if_neg c4] at H;have c4b0 : decide (x10_1 < (l0_0.length : Int)) = false := decide_eq_false c4;clear c4;obtain rfl := Option.some.inj H
        go_wp2
        go_ret
        exact ⟨_, rW, by (with_reducible repeat first|apply rA|apply rN|apply rD);exact HO_3.out, eB⟩

/-! ### commute_olds: function 53 -/
def commute_olds.l0 : Nat → List (S78) → List (S47) → Int → Int → Option ((List (S78)))
  | 0, _, _, _, _ => none
  | k + 1, x3, x7, x8, x9 => if x9 < x8 then (if 0 ≤ x9 then (if x9 < (x7.length : Int) then ((textpatch_End.f ((rd_T47 x7 x9).f0) ((rd_T47 x7 x9).f1) ((rd_T47 x7 x9).f2)).bind fun t184 => (if x3.length < 8796093022208 then (commute_olds.l0 k (x3 ++ [(⟨(rd_T47 x7 x9).f0, t184⟩ : S78)]) x7 x8 (wrap64 (x9 + 1))) else (none))) else (none)) else (none)) else (some x3)
def commute_olds.f (k : Nat) (l0_0 : List (S47)) : Option ((List (S78))) := commute_olds.l0 k ([] : List (S78)) l0_0 (l0_0.length : Int) 0
theorem commute_olds.mono_l : ∀ k, (∀ y0 y1 y2 y3, LeO (commute_olds.l0 k y0 y1 y2 y3) (commute_olds.l0 (k + 1) y0 y1 y2 y3))
  | 0 => fun _ _ _ _ r h => by simp [commute_olds.l0] at h
  | k + 1 => by
    have ih0 := commute_olds.mono_l k
    · intro y0 y1 y2 y3
      unfold commute_olds.l0
      repeat' first
      | (with_reducible exact ih0 _ _ _ _)
      | (with_reducible exact LeO.refl _)
      | (with_reducible exact LeO.none _)
      | (with_reducible refine LeO.ite ?_ ?_)
      | (with_reducible refine LeO.bind ?_ (fun _ => ?_))
      | exact ih0 _ _ _ _
      | exact LeO.none _
      | refine LeO.ite ?_ ?_
      | refine LeO.bind ?_ (fun _ => ?_)
theorem commute_olds.mono : ∀ a0 k, LeO (commute_olds.f k a0) (commute_olds.f (k + 1) a0) := by
  intro a0 k
  have ih0 := commute_olds.mono_l k
  unfold commute_olds.f
  repeat' first
      | (with_reducible exact ih0 _ _ _ _)
      | (with_reducible exact LeO.refl _)
      | (with_reducible exact LeO.none _)
      | (with_reducible refine LeO.ite ?_ ?_)
      | (with_reducible refine LeO.bind ?_ (fun _ => ?_))
      | exact ih0 _ _ _ _
      | exact LeO.none _
      | refine LeO.ite ?_ ?_
      | refine LeO.bind ?_ (fun _ => ?_)
def commute_olds.T5 : Bool × List (List Nat × List Nat) := (true, [([], []), ([], []), ([1], [1]), ([], []), ([3], [3]), ([2, 4], [2, 4]), ([5], [5]), ([0, 6, 4], [0, 6]), ([7, 7, 0, 1, 2, 3, 4, 5, 6, 7], [0, 7])])
def commute_olds.B5 : List Nat := [0, 0, 2, 0, 8, 30, 62, 127, 255]
theorem commute_olds.tab5 : rtab .any (opsOf Try.f53 5) = commute_olds.T5 := by kernel_rfl
theorem commute_olds.bits5 : waitsOk commute_olds.T5.2 commute_olds.B5 = true := by kernel_rfl
set_option maxHeartbeats 8000000 in
set_option maxRecDepth 100000 in
theorem commute_olds.calls (k : Nat) (A0_0 : Option Addr) (c0_0 : Nat) (l0_0 : List (S47)) (r : List (S78)) (w : World) (hr0_0 : Kd.C k47 w A0_0 l0_0.length l0_0) (hc0_0 : l0_0.length ≤ c0_0) (h : commute_olds.f k l0_0 = some r) :
    Calls Try.prog 53 #[.agg #[.slice A0_0 l0_0.length c0_0]] w fun e w' => ∃ v0_ : Value, e = .returned (v0_) ∧ Kd.R k78 78 w' w.heap.size (fun _ => True) v0_ r ∧ Below w.heap.size w w' := by
  have hu24 := Try.underlying24;have hu47 := Try.underlying47;have hu78 := Try.underlying78;have HR0_0 := Aside0.mk hr0_0;have HC0_0 := Aside0.mk hc0_0;clear hr0_0 hc0_0;have HB := Aside0.mk (Below.refl w.heap.size w);have H : (commute_olds.l0 k ([] : List (S78)) l0_0 (l0_0.length : Int) 0) = some r := h;clear h;have H' := Aside0.mk H;clear H
  go_enter Try.func53, Try.ntmps53
  go_wp2_with (first|((with_reducible refine gate_dst (N := 1) rfl ?_);refine bE 1 #[.slice A0_0 l0_0.length c0_0] 24 ?_;intro gb181 hg w2 hbox hb;have BK181 := Aside0.mk (hbox);have GW181 := gBe HB hg;have GE181 := gBe HB hg;replace HB := sBe HB hb;clear hb hbox hg;have hcz3_0 := hC BK181 0 (.slice A0_0 l0_0.length c0_0);have hfz3_0 := blk_frozen BK181.out 0))
  go_loopg [3, 9] k (fun kq v3 v9 w' => ∃ (x3_1 : List (S78)) (x9_1 : Int), v9 = .int .i64 x9_1 ∧ Aside0 (commute_olds.l0 kq x3_1 l0_0 (l0_0.length : Int) x9_1 = some r) ∧ Aside0 (kq ≤ k) ∧ Aside0 (Kd.R k78 78 w' w.heap.size (fun _ => True) v3 x3_1) ∧ Bk w' gb181 24 #[(.slice A0_0 l0_0.length c0_0)] ∧ Aside0 (Below w.heap.size w w'))
  case atStart => exact ⟨(([] : List (S78))), (0), (by first|rfl|(simp only [i64_w, i32_w];done)|(simp only [i64_w, i32_w];rfl)|(simp;done)|(simp [*];done)), H', ⟨Nat.le_refl _⟩, ⟨by first|exact Kd.R_nil _ _ _ _ _|exact Kd.N_nil _ _ _ _ _|exact Kd.V_nil _ _ _ _ _|exact Kd.Q_nil _ _ _ _ _|exact Kd.S_nil _ _ _ _ _⟩, ⟨kK⟩, ⟨eB⟩⟩
  case round =>
    clear H'
    try clear p2
    try clear hcz3_0
    try clear hfz3_0
    obtain ⟨x3_1, x9_1, rfl, HA, HK1, HO_3, BK181, HB⟩ := hrel
    cases gk with
    | zero => exact absurd HA.out (by simp [commute_olds.l0])
    | succ k1 =>
      have H := HA.out;clear HA;simp only [commute_olds.l0] at H
      by_cases c4 : x9_1 < (l0_0.length : Int)
      · rw [if_pos c4] at H;have c4b0 : decide (x9_1 < (l0_0.length : Int)) = true := decide_eq_true c4;clear c4
        by_cases c5 : 0 ≤ x9_1
        · rw [if_pos c5] at H;have c5b0 : decide (0 ≤ x9_1) = true := decide_eq_true c5;clear c5
          by_cases c6 : x9_1 < (l0_0.length : Int)
          · rw [if_pos c6] at H;have c6b0 : decide (x9_1 < (l0_0.length : Int)) = true := decide_eq_true c6;clear c6;replace H := Option.bind_eq_some_iff.mp H;obtain ⟨t184, A70, H⟩ := H;replace H : (if x3_1.length < 8796093022208 then (commute_olds.l0 k1 (x3_1 ++ [(⟨(rd_T47 l0_0 x9_1).f0, t184⟩ : S78)]) l0_0 (l0_0.length : Int) (wrap64 (x9_1 + 1))) else (none)) = some r := H;have A7 := Aside0.mk A70;clear A70
            by_cases c8 : x3_1.length < 8796093022208
            · rw [if_pos c8] at H;have LMc8 := Aside0.mk c8;clear c8;obtain ⟨y185, hy185⟩ : ∃ y_ : List (S78), y_ = (x3_1 ++ [(⟨(rd_T47 l0_0 x9_1).f0, t184⟩ : S78)]) := ⟨_, rfl⟩;replace H : (commute_olds.l0 k1 y185 l0_0 (l0_0.length : Int) (wrap64 (x9_1 + 1))) = some r := (by first|(rw [hy185];with_reducible exact H)|(have H2_ := (Option.bind_some _ _).symm.trans H;rw [hy185];with_reducible exact H2_)|(have H2_ := (Option.bind_some _ _).symm.trans H;with_reducible exact H2_)|with_reducible exact H|(rw [hy185];exact H)|exact H);have Ny185 := Aside0.mk hy185;clear hy185;have H' := Aside0.mk H;clear H;have p182 : 0 ≤ (x9_1 : Int) := dA;have q182 : x9_1 < (l0_0.length : Int) := dA;obtain ⟨ad182, A182_1, c182_1, A182_2, c182_2, e182, hx182_0, hx182_1, hx182_2, hl182_1, hi182_1, hl182_2, hi182_2⟩ := at_T47 HR0_0.out x9_1 p182 q182
              cases e182
              replace hx182_0 := (hX HB hx182_0:);replace hx182_1 := (hX HB hx182_1:);replace hx182_2 := (hX HB hx182_2:);have HR182_1 := Aside0.mk hi182_1;have HC182_1 := Aside0.mk hl182_1;clear hi182_1 hl182_1;have HR182_2 := Aside0.mk hi182_2;have HC182_2 := Aside0.mk hl182_2;clear hi182_2 hl182_2;replace p182 := eq_true p182;replace q182 := eq_true q182
              try go_wp2_with (first|((with_reducible refine gate_dst (N := 5) rfl ?_);refine bE 5 #[.int .i64 0, .slice none 0 0, .slice none 0 0] 47 ?_;intro gb183 hg w9 hbox hb;have BK183 := Aside0.mk (hbox);have GW183 := gBe HB hg;have GE183 := gBe HB hg;have NB181_183 := nL BK181 hg;have NB183_181 := nG BK181 hg;replace HO_3 := rL HO_3 hb;replace BK181 := lJ BK181 hb;replace HB := sBe HB hb;clear hb hbox hg;have hnb10 := NB183_181.out;have hnc10 := NB181_183.out;have hcz11_0 := hC BK183 0 (.int .i64 0);have hcz11_1 := hC BK183 1 (.slice none 0 0);have hcz11_2 := hC BK183 2 (.slice none 0 0);have hfz11_0 := blk_frozen BK183.out 0;have hfz11_1 := blk_frozen BK183.out 1;have hfz11_2 := blk_frozen BK183.out 2))
              obtain ⟨w12, hW_⟩ : ∃ w_, w_ = (((w9.setCell ⟨gb183, 0, none⟩ (.int .i64 ((rd_T47 l0_0 x9_1).f0))).setCell ⟨gb183, 1, none⟩ (.slice A182_1 ((rd_T47 l0_0 x9_1).f1).length c182_1)).setCell ⟨gb183, 2, none⟩ (.slice A182_2 ((rd_T47 l0_0 x9_1).f2).length c182_2)) := ⟨_, rfl⟩;have n0_ : Aside0 (Kd.R k78 78 w12 w.heap.size (fun _ => True) u3 x3_1) := ⟨by rw [hW_];(with_reducible repeat first|apply rA|apply rN|apply rD);exact Kd.R_mono (Kd.R_far (p := ⟨gb183, 2, none⟩) (Kd.R_far (p := ⟨gb183, 1, none⟩) (Kd.R_far (p := ⟨gb183, 0, none⟩) (Kd.R_types HO_3.out BK183.out (by decide)) (fun _ hk => hk.2) (.int .i64 ((rd_T47 l0_0 x9_1).f0))) (fun _ hk => hk.2) (.slice A182_1 ((rd_T47 l0_0 x9_1).f1).length c182_1)) (fun _ hk => hk.2) (.slice A182_2 ((rd_T47 l0_0 x9_1).f2).length c182_2)) (fun _ hk => trivial)⟩;have n1_ : Bk w12 gb181 24 #[.slice (some ad182) l0_0.length c0_0] := ⟨by rw [hW_];exact kK⟩;have n2_ : Bk w12 gb183 47 #[.int .i64 ((rd_T47 l0_0 x9_1).f0), .slice A182_1 ((rd_T47 l0_0 x9_1).f1).length c182_1, .slice A182_2 ((rd_T47 l0_0 x9_1).f2).length c182_2] := ⟨by rw [hW_];exact kK⟩;have n3_ : Aside0 (Below w.heap.size w w12) := ⟨by rw [hW_];exact eB⟩;(try clear HO_3);(try clear BK181);(try clear BK183);(try clear HB);(try rw [← hW_]);clear hW_;have HO_3 := n0_;have BK181 := n1_;have BK183 := n2_;have HB := n3_;clear n0_ n1_ n2_ n3_;replace HO_3 := Aside0.mk (Kd.R_drew HO_3.out);replace BK181 := Aside0.mk (blk_drew BK181.out);replace BK183 := Aside0.mk (blk_drew BK183.out);replace HB := Aside0.mk (below_drew1 HB.out);refine start_ (n := 9) (S := fun w' => w'.cell? ⟨gb183, 0, none⟩ = some (.int .i64 ((rd_T47 l0_0 x9_1).f0)) ∧ w'.cell? ⟨gb183, 1, none⟩ = some (.slice A182_1 ((rd_T47 l0_0 x9_1).f1).length c182_1) ∧ w'.cell? ⟨gb183, 2, none⟩ = some (.slice A182_2 ((rd_T47 l0_0 x9_1).f2).length c182_2)) (ds := []) (mb 9 0) (by kernel_rfl) rfl (by kernel_rfl) ⟨(blk_cell BK183.out 0).trans rfl, (blk_cell BK183.out 1).trans rfl, (blk_cell BK183.out 2).trans rfl⟩ (fun hHeld => ?_);refine with_tabW commute_olds.tab5 commute_olds.bits5 (fun HT_ HW_ => ?_);generalize w12.drew = w13 at HO_3 BK181 BK183 HB hHeld ⊢;refine pA 0 13 (mb 9 1) HT_ rfl rfl ?_;refine pA 1 14 (mb 9 3) HT_ rfl rfl ?_;refine tA 2 15 (mb 9 7) HT_ HW_ hHeld rfl rfl (by rintro w' ⟨s0, s1, s2⟩;go_simp;with_reducible rfl) ?_;refine tA 3 16 (mb 9 15) HT_ HW_ hHeld rfl rfl (by rintro w' ⟨s0, s1, s2⟩;go_simp;with_reducible rfl) ?_;refine one_ (i := 4) (N := some 17) (mb 9 31) rfl rfl (one_of HT_.out (by kernel_rfl)) (by decide) (fun K hK => ?_);refine goes_ Try.func33 (by kernel_rfl) rfl #[.agg #[.int .i64 ((rd_T47 l0_0 x9_1).f0), .slice A182_1 ((rd_T47 l0_0 x9_1).f1).length c182_1, .slice A182_2 ((rd_T47 l0_0 x9_1).f2).length c182_2]] (by rfl) rfl rfl mA ?_
              with_reducible refine (textpatch_End.calls ((rd_T47 l0_0 x9_1).f0) _ _ ((rd_T47 l0_0 x9_1).f1) _ _ ((rd_T47 l0_0 x9_1).f2) t184 _ ?side1 ?side2 ?side3 ?side4 A7.out).mono ?_
              (case side1 => exact cBe HR182_1);(case side2 => exact HC182_1.out);(case side3 => exact cBe HR182_2);(case side4 => exact HC182_2.out)
              rintro e w14 ⟨rfl, hb⟩
              refine ⟨_, rfl, ?_⟩;replace HO_3 := rL HO_3 hb;replace BK181 := lJ BK181 hb;replace BK183 := lJ BK183 hb;replace HB := sBe HB hb;(try clear hb);refine hK.out _ _ ⟨(blk_cell BK183.out 0).trans rfl, (blk_cell BK183.out 1).trans rfl, (blk_cell BK183.out 2).trans rfl⟩ (fun hHeld => ?_);clear hK K;refine nmA (some 17) ?_;refine pA 5 18 (mb 9 63) HT_ rfl rfl ?_;refine one_ (i := 6) (N := some 19) (mb 9 127) rfl rfl (one_of HT_.out (by kernel_rfl)) (by decide) (fun K hK => ?_);refine value_ (w1 := ?_) (v := ?_) (by rfl) rfl ?_ ?_;rotate_left 2
              · go_simp
                constructor
                · rfl
                · rfl
              refine hK.out _ _ ⟨(blk_cell (blk_alloc BK183.out _) 0).trans rfl, (blk_cell (blk_alloc BK183.out _) 1).trans rfl, (blk_cell (blk_alloc BK183.out _) 2).trans rfl⟩ (fun hHeld => ?_);clear hK K;refine nmA (some 19) ?_;refine one_ (i := 7) (N := some 20) (mb 9 255) rfl rfl (one_of HT_.out (by kernel_rfl)) (by decide) (fun K hK => ?_);refine Kd.R_append_step k78 (w0 := w) w.heap.size (by rfl) (.tmp 13) (.tmp 19) 63 78 (.agg #[(.int .i64 0), (.int .i64 0)]) 16 rfl Try.underlying63 info78 rfl (by decide) (by omega) u3 x3_1 (⟨(rd_T47 l0_0 x9_1).f0, t184⟩ : S78) [.int .i64 ((rd_T47 l0_0 x9_1).f0), .int .i64 t184] (fun _ => True) (fun _ => False) rfl rfl ?aP (fun _ hk => hk.elim) ?aF ?aO ?aB ?aS ?aL ?_;(case aP => exact k78_mkM _ _ _ (⟨(rd_T47 l0_0 x9_1).f0, t184⟩ : S78));(case aB => exact eB);(case aF => exact (fun _ _ => trivial));(case aO => exact (rK HO_3));(case aS => exact (below_size eB));(case aL => have := LMc8.out;omega)
              intro v186 w15 ho hb hg hat
              rw [← Ny185.out] at ho;have n0_ := Aside0.mk (blk_grown (g := gb181) (o := .cells #[.slice (some ad182) l0_0.length c0_0] 24 (0, 0)) kK hg (Kd.R_ne HO_3.out BK181.out (by decide)));have n1_ := Aside0.mk (blk_grown (g := gb183) (o := .cells #[.int .i64 ((rd_T47 l0_0 x9_1).f0), .slice A182_1 ((rd_T47 l0_0 x9_1).f1).length c182_1, .slice A182_2 ((rd_T47 l0_0 x9_1).f2).length c182_2] 47 (0, 0)) kK hg (Kd.R_ne HO_3.out BK183.out (by decide)));have n2_ := Aside0.mk (hb);have n3_ := Aside0.mk (ho);clear BK181;clear BK183;clear HB;clear HO_3;have BK181 := n0_;have BK183 := n1_;have HB := n2_;have HO187 := n3_;clear n0_ n1_ n2_ n3_;clear ho hb hg hat;refine hK.out _ _ ⟨(blk_cell BK183.out 0).trans rfl, (blk_cell BK183.out 1).trans rfl, (blk_cell BK183.out 2).trans rfl⟩ (fun hHeld => ?_);clear hK K;refine nmA (some 20) ?_;refine pA 8 3 (mb 9 511) HT_ rfl rfl ?_;refine done_ (done_of HT_.out (by kernel_rfl)) ?_
              try go_wp2
              go_roundg k1
              case measure => have := HK1.out;omega
              case rel => exact ⟨(y185), (wrap64 (x9_1 + 1)), (by first|rfl|(simp only [i64_w, i32_w];done)|(simp only [i64_w, i32_w];rfl)|(simp;done)|(simp [*];done)), H', ⟨by have := HK1.out;omega⟩, ⟨by (with_reducible repeat first|apply rA|apply rN|apply rD);exact HO187.out⟩, ⟨kK⟩, ⟨eB⟩⟩
            · rw [if_neg c8] at H;exact absurd H (by simp)
          · rw [if_neg c6] at H;exact absurd H (by simp)
        · rw [if_neg c5] at H;exact absurd H (by simp)
      · rw [if_neg c4] at H;have c4b0 : decide (x9_1 < (l0_0.length : Int)) = false := decide_eq_false c4;clear c4;obtain rfl := Option.some.inj H
        go_wp2
        go_ret
        exact ⟨_, rW, by (with_reducible repeat first|apply rA|apply rN|apply rD);exact HO_3.out, eB⟩

/-! ### textpatch_Moved: function 65 -/
def textpatch_Moved.f (a0_0 : Int) (l0_1 : List ByteArray) (l0_2 : List ByteArray) (a1 : Int) : Option (Int × List ByteArray × List ByteArray) := (slices_Clone_string_string.f l0_1).bind fun t190 => ((slices_Clone_string_string.f l0_2).bind fun t193 => (some (a1, t190, t193)))
def textpatch_Moved.T1 : Bool × List (List Nat × List Nat) := (true, [([], []), ([], []), ([1], [1]), ([2], [2]), ([], []), ([4], [4]), ([5, 3], [5]), ([0, 3, 6], [0, 3, 6]), ([7, 6, 0, 1, 2, 3, 4, 5, 6, 7], [7])])
def textpatch_Moved.B1 : List Nat := [0, 0, 2, 6, 0, 16, 62, 127, 255]
theorem textpatch_Moved.tab1 : rtab .any (opsOf Try.f65 1) = textpatch_Moved.T1 := by kernel_rfl
theorem textpatch_Moved.bits1 : waitsOk textpatch_Moved.T1.2 textpatch_Moved.B1 = true := by kernel_rfl
set_option maxHeartbeats 8000000 in
set_option maxRecDepth 100000 in
theorem textpatch_Moved.calls (a0_0 : Int) (A0_1 : Option Addr) (c0_1 : Nat) (l0_1 : List ByteArray) (A0_2 : Option Addr) (c0_2 : Nat) (l0_2 : List ByteArray) (a1 : Int) (r1 : Int) (r2 : List ByteArray) (r3 : List ByteArray) (w : World) (hr0_1 : Kd.C Kd.string w A0_1 l0_1.length l0_1) (hc0_1 : l0_1.length ≤ c0_1) (hr0_2 : Kd.C Kd.string w A0_2 l0_2.length l0_2) (hc0_2 : l0_2.length ≤ c0_2) (h : textpatch_Moved.f a0_0 l0_1 l0_2 a1 = some (r1, r2, r3)) :
    Calls Try.prog 65 #[.agg #[.int .i64 a0_0, .slice A0_1 l0_1.length c0_1, .slice A0_2 l0_2.length c0_2], .int .i64 a1] w fun e w' => ∃ v1_ v2_ : Value, e = .returned (.agg #[.int .i64 r1, v1_, v2_]) ∧ Kd.R Kd.string 9 w' w.heap.size (fun k_ => some k_ ≠ (v2_ : Value).ownBlock) v1_ r2 ∧ Kd.R Kd.string 9 w' w.heap.size (fun k_ => some k_ ≠ (v1_ : Value).ownBlock) v2_ r3 ∧ Below w.heap.size w w' := by
  have hu47 := Try.underlying47;have HR0_1 := Aside0.mk hr0_1;have HC0_1 := Aside0.mk hc0_1;clear hr0_1 hc0_1;have HR0_2 := Aside0.mk hr0_2;have HC0_2 := Aside0.mk hc0_2;clear hr0_2 hc0_2;have HB := Aside0.mk (Below.refl w.heap.size w);have H : ((slices_Clone_string_string.f l0_1).bind fun t190 => ((slices_Clone_string_string.f l0_2).bind fun t193 => (some (a1, t190, t193)))) = some (r1, r2, r3) := h;clear h;replace H := Option.bind_eq_some_iff.mp H;obtain ⟨t190, A30, H⟩ := H;replace H : ((slices_Clone_string_string.f l0_2).bind fun t193 => (some (a1, t190, t193))) = some (r1, r2, r3) := H;have A3 := Aside0.mk A30;clear A30;replace H := Option.bind_eq_some_iff.mp H;obtain ⟨t193, A40, H⟩ := H;replace H : (some (a1, t190, t193)) = some (r1, r2, r3) := H;have A4 := Aside0.mk A40;clear A40;simp only [Option.some.injEq, Prod.mk.injEq] at H;obtain ⟨rfl, rfl, rfl⟩ := H
  go_enter Try.func65, Try.ntmps65
  try go_wp2_with (first|((with_reducible refine gate_dst (N := 2) rfl ?_);refine bE 2 #[.int .i64 a0_0, .slice A0_1 l0_1.length c0_1, .slice A0_2 l0_2.length c0_2] 47 ?_;intro gb188 hg w5 hbox hb;have BK188 := Aside0.mk (hbox);have GW188 := gBe HB hg;have GE188 := gBe HB hg;replace HB := sBe HB hb;clear hb hbox hg)|((with_reducible refine gate_dst (N := 4) rfl ?_);refine bE 4 #[.int .i64 0, .slice none 0 0, .slice none 0 0] 47 ?_;intro gb189 hg w6 hbox hb;have BK189 := Aside0.mk (hbox);have GW189 := gBe HB hg;have GE189 := gBe HB hg;have NB188_189 := nL BK188 hg;have NB189_188 := nG BK188 hg;replace BK188 := lJ BK188 hb;replace HB := sBe HB hb;clear hb hbox hg))
  replace BK188 := Aside0.mk (blk_drew BK188.out);replace BK189 := Aside0.mk (blk_drew BK189.out);replace HB := Aside0.mk (below_drew1 HB.out);refine start_ (n := 9) (S := fun w' => w'.cell? ⟨gb188, 0, none⟩ = some (.int .i64 a0_0) ∧ w'.cell? ⟨gb188, 1, none⟩ = some (.slice A0_1 l0_1.length c0_1) ∧ w'.cell? ⟨gb188, 2, none⟩ = some (.slice A0_2 l0_2.length c0_2)) (ds := []) (mb 9 0) (by kernel_rfl) rfl (by kernel_rfl) ⟨(blk_cell BK188.out 0).trans rfl, (blk_cell BK188.out 1).trans rfl, (blk_cell BK188.out 2).trans rfl⟩ (fun hHeld => ?_);refine with_tabW textpatch_Moved.tab1 textpatch_Moved.bits1 (fun HT_ HW_ => ?_);generalize w6.drew = w7 at BK188 BK189 HB hHeld ⊢;refine pA 0 5 (mb 9 1) HT_ rfl rfl ?_;refine pA 1 6 (mb 9 3) HT_ rfl rfl ?_;refine pA 4 9 (mb 9 19) HT_ rfl rfl ?_;refine tA 2 7 (mb 9 23) HT_ HW_ hHeld rfl rfl (by rintro w' ⟨s0, s1, s2⟩;go_simp;with_reducible rfl) ?_;refine tA 5 10 (mb 9 55) HT_ HW_ hHeld rfl rfl (by rintro w' ⟨s0, s1, s2⟩;go_simp;with_reducible rfl) ?_;refine one_ (i := 3) (N := some 8) (mb 9 63) rfl rfl (one_of HT_.out (by kernel_rfl)) (by decide) (fun K hK => ?_);refine goes_ Try.func39 (by kernel_rfl) rfl #[.slice A0_1 l0_1.length c0_1] (by rfl) rfl rfl mA ?_
  with_reducible refine (slices_Clone_string_string.calls _ _ l0_1 t190 _ ?side1 ?side2 A3.out).mono ?_
  (case side1 => exact cBe HR0_1);(case side2 => exact HC0_1.out)
  rintro e w8 ⟨v191, rfl, ho0, hb⟩
  refine ⟨_, rfl, ?_⟩;have HO192 := Aside0.mk (Kd.R_lower ho0 (below_size eB));replace BK188 := lJ BK188 hb;replace BK189 := lJ BK189 hb;replace HB := sBe HB hb;(try clear hb ho0);refine hK.out _ _ ⟨(blk_cell BK188.out 0).trans rfl, (blk_cell BK188.out 1).trans rfl, (blk_cell BK188.out 2).trans rfl⟩ (fun hHeld => ?_);clear hK K;refine nmA (some 8) ?_;refine one_ (i := 6) (N := some 11) (mb 9 127) rfl rfl (one_of HT_.out (by kernel_rfl)) (by decide) (fun K hK => ?_);refine goes_ Try.func39 (by kernel_rfl) rfl #[.slice A0_2 l0_2.length c0_2] (by rfl) rfl rfl mA ?_
  with_reducible refine (slices_Clone_string_string.calls _ _ l0_2 t193 _ ?side1 ?side2 A4.out).mono ?_
  (case side1 => exact cBe HR0_2);(case side2 => exact HC0_2.out)
  rintro e w9 ⟨v194, rfl, ho0, hb⟩
  refine ⟨_, rfl, ?_⟩;have HO195 := Aside0.mk (Kd.R_lower (Kd.R_new' ho0 (Kd.R_lt (rK HO192))) (below_size eB));replace HO192 := Aside0.mk (Kd.R_elder' (rK HO192) (Kd.R_base ho0) hb);replace BK188 := lJ BK188 hb;replace BK189 := lJ BK189 hb;replace HB := sBe HB hb;(try clear hb ho0);obtain ⟨Ao10, co10, eo10⟩ := Kd.R_slice HO195.out
  (first|subst eo10|(injection eo10 with f1_ f2_ f3_;have f4_ := f1_.symm;have f5_ := f3_.symm;clear f1_ f2_ f3_;subst f4_;subst f5_))
  obtain ⟨Ao11, co11, eo11⟩ := Kd.R_slice HO192.out
  (first|subst eo11|(injection eo11 with f1_ f2_ f3_;have f4_ := f1_.symm;have f5_ := f3_.symm;clear f1_ f2_ f3_;subst f4_;subst f5_))
  refine hK.out _ _ ⟨(blk_cell BK188.out 0).trans rfl, (blk_cell BK188.out 1).trans rfl, (blk_cell BK188.out 2).trans rfl⟩ (fun hHeld => ?_);clear hK K;refine nmA (some 11) ?_;refine pA 7 12 (mb 9 255) HT_ rfl rfl ?_;refine one_ (i := 8) (N := none) (mb 9 511) rfl rfl (one_of HT_.out (by kernel_rfl)) (by decide) (fun K hK => ?_);have hs12 : w9.cell? ⟨gb189, 0, none⟩ = some (.int .i64 0) := (blk_cell BK189.out 0).trans rfl;have hfs12 := blk_frozen BK189.out 0;have := NB188_189.out;have := NB189_188.out;have hs13 : w9.cell? ⟨gb189, 1, none⟩ = some (.slice none 0 0) := (blk_cell BK189.out 1).trans rfl;have hfs13 := blk_frozen BK189.out 1;have := NB188_189.out;have := NB189_188.out;have hs14 : w9.cell? ⟨gb189, 2, none⟩ = some (.slice none 0 0) := (blk_cell BK189.out 2).trans rfl;have hfs14 := blk_frozen BK189.out 2;have := NB188_189.out;have := NB189_188.out;refine skip_ (w1 := ?_) (by rfl) rfl ?_ ?_;rotate_left
  · go_simp
    rfl
  refine hK.out _ _ ⟨((cell_far (p := ⟨gb189, _, none⟩) NB188_189.out _).trans (((cell_far (p := ⟨gb189, _, none⟩) NB188_189.out _).trans (((cell_far (p := ⟨gb189, _, none⟩) NB188_189.out _).trans (hHeld.1)))))), ((cell_far (p := ⟨gb189, _, none⟩) NB188_189.out _).trans (((cell_far (p := ⟨gb189, _, none⟩) NB188_189.out _).trans (((cell_far (p := ⟨gb189, _, none⟩) NB188_189.out _).trans (hHeld.2.1)))))), ((cell_far (p := ⟨gb189, _, none⟩) NB188_189.out _).trans (((cell_far (p := ⟨gb189, _, none⟩) NB188_189.out _).trans (((cell_far (p := ⟨gb189, _, none⟩) NB188_189.out _).trans (hHeld.2.2))))))⟩ (fun hHeld => ?_);clear hK K;refine done_ (done_of HT_.out (by kernel_rfl)) ?_
  try go_wp2
  refine bodyPost_ret (results_cell_row rfl _ _ gb189 47 #[.int .i64 a1, .slice Ao11 t190.length co11, .slice Ao10 t193.length co10] (0, 0) _ rfl kK Try.underlying47 rfl (by kernel_rfl)) rfl ?_;exact ⟨_, _, rW, by (with_reducible repeat first|apply rA|apply rN|apply rD);exact Kd.R_mono (Kd.R_far (p := ⟨gb189, 2, none⟩) (Kd.R_far (p := ⟨gb189, 1, none⟩) (Kd.R_far (p := ⟨gb189, 0, none⟩) (Kd.R_types HO192.out BK189.out (by decide)) (fun _ hk => hk.2) (.int .i64 a1)) (fun _ hk => hk.2) (.slice Ao11 t190.length co11)) (fun _ hk => hk.2) (.slice Ao10 t193.length co10)) (fun _ hk => hk.1.2), by (with_reducible repeat first|apply rA|apply rN|apply rD);exact Kd.R_mono (Kd.R_far (p := ⟨gb189, 2, none⟩) (Kd.R_far (p := ⟨gb189, 1, none⟩) (Kd.R_far (p := ⟨gb189, 0, none⟩) (Kd.R_types HO195.out BK189.out (by decide)) (fun _ hk => hk.2) (.int .i64 a1)) (fun _ hk => hk.2) (.slice Ao11 t190.length co11)) (fun _ hk => hk.2) (.slice Ao10 t193.length co10)) (fun _ hk => hk.1.2), eB⟩

/-! ### commute_growth: function 66 -/
def commute_growth.l0 : Nat → List (S78) → Int → Int → List (S47) → Int → Int → Option (Int)
  | 0, _, _, _, _, _, _ => none
  | k + 1, x1, x2, x7, x11, x12, x13 => if x13 < x12 then (if 0 ≤ x13 then (if x13 < (x11.length : Int) then (if x13 < (x1.length : Int) then (if ((rd_T78 x1 x13).f1) < x2 then (commute_growth.l0 k x1 x2 (wrap64 (x7 + (wrap64 ((((rd_T47 x11 x13).f2).length : Int) - (((rd_T47 x11 x13).f1).length : Int))))) x11 x12 (wrap64 (x13 + 1))) else (commute_growth.l0 k x1 x2 x7 x11 x12 (wrap64 (x13 + 1)))) else (none)) else (none)) else (none)) else (some x7)
def commute_growth.f (k : Nat) (l0_0 : List (S47)) (l1 : List (S78)) (a2 : Int) : Option (Int) := commute_growth.l0 k l1 a2 0 l0_0 (l0_0.length : Int) 0
theorem commute_growth.mono_l : ∀ k, (∀ y0 y1 y2 y3 y4 y5, LeO (commute_growth.l0 k y0 y1 y2 y3 y4 y5) (commute_growth.l0 (k + 1) y0 y1 y2 y3 y4 y5))
  | 0 => fun _ _ _ _ _ _ r h => by simp [commute_growth.l0] at h
  | k + 1 => by
    have ih0 := commute_growth.mono_l k
    · intro y0 y1 y2 y3 y4 y5
      unfold commute_growth.l0
      repeat' first
      | (with_reducible exact ih0 _ _ _ _ _ _)
      | (with_reducible exact LeO.refl _)
      | (with_reducible exact LeO.none _)
      | (with_reducible refine LeO.ite ?_ ?_)
      | (with_reducible refine LeO.bind ?_ (fun _ => ?_))
      | exact ih0 _ _ _ _ _ _
      | exact LeO.none _
      | refine LeO.ite ?_ ?_
      | refine LeO.bind ?_ (fun _ => ?_)
theorem commute_growth.mono : ∀ a0 a1 a2 k, LeO (commute_growth.f k a0 a1 a2) (commute_growth.f (k + 1) a0 a1 a2) := by
  intro a0 a1 a2 k
  have ih0 := commute_growth.mono_l k
  unfold commute_growth.f
  repeat' first
      | (with_reducible exact ih0 _ _ _ _ _ _)
      | (with_reducible exact LeO.refl _)
      | (with_reducible exact LeO.none _)
      | (with_reducible refine LeO.ite ?_ ?_)
      | (with_reducible refine LeO.bind ?_ (fun _ => ?_))
      | exact ih0 _ _ _ _ _ _
      | exact LeO.none _
      | refine LeO.ite ?_ ?_
      | refine LeO.bind ?_ (fun _ => ?_)
set_option maxHeartbeats 8000000 in
set_option maxRecDepth 100000 in
theorem commute_growth.calls (k : Nat) (A0_0 : Option Addr) (c0_0 : Nat) (l0_0 : List (S47)) (A1 : Option Addr) (c1 : Nat) (l1 : List (S78)) (a2 : Int) (r : Int) (w : World) (hr0_0 : Kd.C k47 w A0_0 l0_0.length l0_0) (hc0_0 : l0_0.length ≤ c0_0) (hr1 : Kd.C k78 w A1 l1.length l1) (hc1 : l1.length ≤ c1) (h : commute_growth.f k l0_0 l1 a2 = some r) :
    Calls Try.prog 66 #[.agg #[.slice A0_0 l0_0.length c0_0], .slice A1 l1.length c1, .int .i64 a2] w fun e w' => e = .returned (.int .i64 r) ∧ Below w.heap.size w w' := by
  have hu24 := Try.underlying24;have hu47 := Try.underlying47;have HR0_0 := Aside0.mk hr0_0;have HC0_0 := Aside0.mk hc0_0;clear hr0_0 hc0_0;have HR1 := Aside0.mk hr1;have HC1 := Aside0.mk hc1;clear hr1 hc1;have HB := Aside0.mk (Below.refl w.heap.size w);have H : (commute_growth.l0 k l1 a2 0 l0_0 (l0_0.length : Int) 0) = some r := h;clear h;have H' := Aside0.mk H;clear H
  go_enter Try.func66, Try.ntmps66
  go_wp2_with (first|((with_reducible refine gate_dst (N := 3) rfl ?_);refine bE 3 #[.slice A0_0 l0_0.length c0_0] 24 ?_;intro gb196 hg w4 hbox hb;have BK196 := Aside0.mk (hbox);have GW196 := gBe HB hg;have GE196 := gBe HB hg;replace HB := sBe HB hb;clear hb hbox hg;have hcz5_0 := hC BK196 0 (.slice A0_0 l0_0.length c0_0);have hfz5_0 := blk_frozen BK196.out 0))
  go_loopg [7, 13] k (fun kq v7 v13 w' => ∃ (x7_1 : Int) (x13_1 : Int), v7 = .int .i64 x7_1 ∧ v13 = .int .i64 x13_1 ∧ Aside0 (commute_growth.l0 kq l1 a2 x7_1 l0_0 (l0_0.length : Int) x13_1 = some r) ∧ Aside0 (kq ≤ k) ∧ Bk w' gb196 24 #[(.slice A0_0 l0_0.length c0_0)] ∧ Aside0 (Below w.heap.size w w'))
  case atStart => exact ⟨(0), (0), (by first|rfl|(simp only [i64_w, i32_w];done)|(simp only [i64_w, i32_w];rfl)|(simp;done)|(simp [*];done)), (by first|rfl|(simp only [i64_w, i32_w];done)|(simp only [i64_w, i32_w];rfl)|(simp;done)|(simp [*];done)), H', ⟨Nat.le_refl _⟩, ⟨kK⟩, ⟨eB⟩⟩
  case round =>
    clear H'
    try clear c1
    try clear p2
    try clear hcz5_0
    try clear hfz5_0
    obtain ⟨x7_1, x13_1, rfl, rfl, HA, HK1, BK196, HB⟩ := hrel
    cases gk with
    | zero => exact absurd HA.out (by simp [commute_growth.l0])
    | succ k1 =>
      have H := HA.out;clear HA;simp only [commute_growth.l0] at H
      by_cases c6 : x13_1 < (l0_0.length : Int)
      · rw [if_pos c6] at H;have c6b0 : decide (x13_1 < (l0_0.length : Int)) = true := decide_eq_true c6;clear c6
        by_cases c7 : 0 ≤ x13_1
        · rw [if_pos c7] at H;have c7b0 : decide (0 ≤ x13_1) = true := decide_eq_true c7;clear c7
          by_cases c8 : x13_1 < (l0_0.length : Int)
          · rw [if_pos c8] at H;have c8b0 : decide (x13_1 < (l0_0.length : Int)) = true := decide_eq_true c8;clear c8
            by_cases c9 : x13_1 < (l1.length : Int)
            · rw [if_pos c9] at H;have c9b0 : decide (x13_1 < (l1.length : Int)) = true := decide_eq_true c9;clear c9;have p197 : 0 ≤ (x13_1 : Int) := dA;have q197 : x13_1 < (l0_0.length : Int) := dA;obtain ⟨ad197, A197_1, c197_1, A197_2, c197_2, e197, hx197_0, hx197_1, hx197_2, hl197_1, hi197_1, hl197_2, hi197_2⟩ := at_T47 HR0_0.out x13_1 p197 q197
              cases e197
              replace hx197_0 := (hX HB hx197_0:);replace hx197_1 := (hX HB hx197_1:);replace hx197_2 := (hX HB hx197_2:);have HR197_1 := Aside0.mk hi197_1;have HC197_1 := Aside0.mk hl197_1;clear hi197_1 hl197_1;have HR197_2 := Aside0.mk hi197_2;have HC197_2 := Aside0.mk hl197_2
              by_cases c10 : ((rd_T78 l1 x13_1).f1) < a2
              · rw [if_pos c10] at H;have c10b0 : decide (((rd_T78 l1 x13_1).f1) < a2) = true := decide_eq_true c10;clear c10;have H' := Aside0.mk H;clear H;clear hi197_2 hl197_2;replace p197 := eq_true p197;replace q197 := eq_true q197
                go_wp2_with (first|((with_reducible refine gate_dst (N := 9) rfl ?_);refine bE 9 #[.int .i64 0, .slice none 0 0, .slice none 0 0] 47 ?_;intro gb198 hg w11 hbox hb;have BK198 := Aside0.mk (hbox);have GW198 := gBe HB hg;have GE198 := gBe HB hg;have NB196_198 := nL BK196 hg;have NB198_196 := nG BK196 hg;replace BK196 := lJ BK196 hb;replace HB := sBe HB hb;clear hb hbox hg;have hnb12 := NB198_196.out;have hnc12 := NB196_198.out;have hcz13_0 := hC BK198 0 (.int .i64 0);have hcz13_1 := hC BK198 1 (.slice none 0 0);have hcz13_2 := hC BK198 2 (.slice none 0 0);have hfz13_0 := blk_frozen BK198.out 0;have hfz13_1 := blk_frozen BK198.out 1;have hfz13_2 := blk_frozen BK198.out 2;have p199 : 0 ≤ (x13_1 : Int) := dA;have q199 : x13_1 < (l1.length : Int) := dA;obtain ⟨ad199, e199, hx199_0, hx199_1⟩ := at_T78 HR1.out x13_1 p199 q199;cases e199;have hn199_0 : ad199.block ≠ gb198 := Nat.ne_of_lt (Nat.lt_of_lt_of_le (by have := World.block_lt_of_cell? _ _ hx199_0;first|rwa [add_block] at this|exact this) GW198.out);have hn199_1 : ad199.block ≠ gb198 := Nat.ne_of_lt (Nat.lt_of_lt_of_le (by have := World.block_lt_of_cell? _ _ hx199_0;first|rwa [add_block] at this|exact this) GW198.out);have hn199_2 : ad199.block ≠ gb198 := Nat.ne_of_lt (Nat.lt_of_lt_of_le (by have := World.block_lt_of_cell? _ _ hx199_0;first|rwa [add_block] at this|exact this) GW198.out);replace hx199_0 := (hX HB hx199_0:);replace hx199_1 := (hX HB hx199_1:);replace hx199_0 := (cell_far (p := ⟨gb198, 0, none⟩) (by first|(rw [add_block];exact hn199_0)|(show (Addr.add _ _).block ≠ _;rw [add_block];exact hn199_0)|exact hn199_0) (.int .i64 ((rd_T47 l0_0 x13_1).f0))).trans hx199_0;replace hx199_1 := (cell_far (p := ⟨gb198, 0, none⟩) (by first|(rw [add_block];exact hn199_0)|(show (Addr.add _ _).block ≠ _;rw [add_block];exact hn199_0)|exact hn199_0) (.int .i64 ((rd_T47 l0_0 x13_1).f0))).trans hx199_1;replace hx199_0 := (cell_far (p := ⟨gb198, 1, none⟩) (by first|(rw [add_block];exact hn199_1)|(show (Addr.add _ _).block ≠ _;rw [add_block];exact hn199_1)|exact hn199_1) (.slice A197_1 ((rd_T47 l0_0 x13_1).f1).length c197_1)).trans hx199_0;replace hx199_1 := (cell_far (p := ⟨gb198, 1, none⟩) (by first|(rw [add_block];exact hn199_1)|(show (Addr.add _ _).block ≠ _;rw [add_block];exact hn199_1)|exact hn199_1) (.slice A197_1 ((rd_T47 l0_0 x13_1).f1).length c197_1)).trans hx199_1;replace hx199_0 := (cell_far (p := ⟨gb198, 2, none⟩) (by first|(rw [add_block];exact hn199_2)|(show (Addr.add _ _).block ≠ _;rw [add_block];exact hn199_2)|exact hn199_2) (.slice A197_2 ((rd_T47 l0_0 x13_1).f2).length c197_2)).trans hx199_0;replace hx199_1 := (cell_far (p := ⟨gb198, 2, none⟩) (by first|(rw [add_block];exact hn199_2)|(show (Addr.add _ _).block ≠ _;rw [add_block];exact hn199_2)|exact hn199_2) (.slice A197_2 ((rd_T47 l0_0 x13_1).f2).length c197_2)).trans hx199_1;clear hn199_0;clear hn199_1;clear hn199_2;replace p199 := eq_true p199;replace q199 := eq_true q199))
                go_roundg k1
                case measure => have := HK1.out;omega
                case rel => exact ⟨(wrap64 (x7_1 + (wrap64 ((((rd_T47 l0_0 x13_1).f2).length : Int) - (((rd_T47 l0_0 x13_1).f1).length : Int))))), (wrap64 (x13_1 + 1)), (by first|rfl|(simp only [i64_w, i32_w];done)|(simp only [i64_w, i32_w];rfl)|(simp;done)|(simp [*];done)), (by first|rfl|(simp only [i64_w, i32_w];done)|(simp only [i64_w, i32_w];rfl)|(simp;done)|(simp [*];done)), H', ⟨by have := HK1.out;omega⟩, ⟨kK⟩, ⟨eB⟩⟩
              · rw [if_neg c10] at H;have c10b0 : decide (((rd_T78 l1 x13_1).f1) < a2) = false := decide_eq_false c10;clear c10;have H' := Aside0.mk H;clear H;clear hi197_2 hl197_2;replace p197 := eq_true p197;replace q197 := eq_true q197
                go_wp2_with (first|((with_reducible refine gate_dst (N := 9) rfl ?_);refine bE 9 #[.int .i64 0, .slice none 0 0, .slice none 0 0] 47 ?_;intro gb198 hg w11 hbox hb;have BK198 := Aside0.mk (hbox);have GW198 := gBe HB hg;have GE198 := gBe HB hg;have NB196_198 := nL BK196 hg;have NB198_196 := nG BK196 hg;replace BK196 := lJ BK196 hb;replace HB := sBe HB hb;clear hb hbox hg;have hnb12 := NB198_196.out;have hnc12 := NB196_198.out;have hcz13_0 := hC BK198 0 (.int .i64 0);have hcz13_1 := hC BK198 1 (.slice none 0 0);have hcz13_2 := hC BK198 2 (.slice none 0 0);have hfz13_0 := blk_frozen BK198.out 0;have hfz13_1 := blk_frozen BK198.out 1;have hfz13_2 := blk_frozen BK198.out 2;have p199 : 0 ≤ (x13_1 : Int) := dA;have q199 : x13_1 < (l1.length : Int) := dA;obtain ⟨ad199, e199, hx199_0, hx199_1⟩ := at_T78 HR1.out x13_1 p199 q199;cases e199;have hn199_0 : ad199.block ≠ gb198 := Nat.ne_of_lt (Nat.lt_of_lt_of_le (by have := World.block_lt_of_cell? _ _ hx199_0;first|rwa [add_block] at this|exact this) GW198.out);have hn199_1 : ad199.block ≠ gb198 := Nat.ne_of_lt (Nat.lt_of_lt_of_le (by have := World.block_lt_of_cell? _ _ hx199_0;first|rwa [add_block] at this|exact this) GW198.out);have hn199_2 : ad199.block ≠ gb198 := Nat.ne_of_lt (Nat.lt_of_lt_of_le (by have := World.block_lt_of_cell? _ _ hx199_0;first|rwa [add_block] at this|exact this) GW198.out);replace hx199_0 := (hX HB hx199_0:);replace hx199_1 := (hX HB hx199_1:);replace hx199_0 := (cell_far (p := ⟨gb198, 0, none⟩) (by first|(rw [add_block];exact hn199_0)|(show (Addr.add _ _).block ≠ _;rw [add_block];exact hn199_0)|exact hn199_0) (.int .i64 ((rd_T47 l0_0 x13_1).f0))).trans hx199_0;replace hx199_1 := (cell_far (p := ⟨gb198, 0, none⟩) (by first|(rw [add_block];exact hn199_0)|(show (Addr.add _ _).block ≠ _;rw [add_block];exact hn199_0)|exact hn199_0) (.int .i64 ((rd_T47 l0_0 x13_1).f0))).trans hx199_1;replace hx199_0 := (cell_far (p := ⟨gb198, 1, none⟩) (by first|(rw [add_block];exact hn199_1)|(show (Addr.add _ _).block ≠ _;rw [add_block];exact hn199_1)|exact hn199_1) (.slice A197_1 ((rd_T47 l0_0 x13_1).f1).length c197_1)).trans hx199_0;replace hx199_1 := (cell_far (p := ⟨gb198, 1, none⟩) (by first|(rw [add_block];exact hn199_1)|(show (Addr.add _ _).block ≠ _;rw [add_block];exact hn199_1)|exact hn199_1) (.slice A197_1 ((rd_T47 l0_0 x13_1).f1).length c197_1)).trans hx199_1;replace hx199_0 := (cell_far (p := ⟨gb198, 2, none⟩) (by first|(rw [add_block];exact hn199_2)|(show (Addr.add _ _).block ≠ _;rw [add_block];exact hn199_2)|exact hn199_2) (.slice A197_2 ((rd_T47 l0_0 x13_1).f2).length c197_2)).trans hx199_0;replace hx199_1 := (cell_far (p := ⟨gb198, 2, none⟩) (by first|(rw [add_block];exact hn199_2)|(show (Addr.add _ _).block ≠ _;rw [add_block];exact hn199_2)|exact hn199_2) (.slice A197_2 ((rd_T47 l0_0 x13_1).f2).length c197_2)).trans hx199_1;clear hn199_0;clear hn199_1;clear hn199_2;replace p199 := eq_true p199;replace q199 := eq_true q199))
                go_roundg k1
                case measure => have := HK1.out;omega
                case rel => exact ⟨(x7_1), (wrap64 (x13_1 + 1)), (by first|rfl|(simp only [i64_w, i32_w];done)|(simp only [i64_w, i32_w];rfl)|(simp;done)|(simp [*];done)), (by first|rfl|(simp only [i64_w, i32_w];done)|(simp only [i64_w, i32_w];rfl)|(simp;done)|(simp [*];done)), H', ⟨by have := HK1.out;omega⟩, ⟨kK⟩, ⟨eB⟩⟩
            · rw [if_neg c9] at H;exact absurd H (by simp)
          · rw [if_neg c8] at H;exact absurd H (by simp)
        · rw [if_neg c7] at H;exact absurd H (by simp)
      · rw [if_neg c6] at H;have c6b0 : decide (x13_1 < (l0_0.length : Int)) = false := decide_eq_false c6;clear c6;obtain rfl := Option.some.inj H
        go_wp2
        go_ret
        exact ⟨rW, eB⟩

end Go.Proofs.Ytdnnkhogpobjbaa.PY
