/- Printed by a program of this session out of the translation: Lean functions for Go functions, and proofs that the Go functions answer the same. -/
import Derived.Test.YtifkadmljokffaaPK0
import Derived.Test.YtifkadmljokffaaPK3
namespace Go.Proofs.Ytifkadmljokffaa.PK
open Go.RowKit Go.Proofs.Ytifkadmljokffaa.Pre Go.Proofs.YtifkadmljokffaaW.PrintWords Go.Proofs.YtifkadmljokffaaW.PrintLast Go.Proofs.YtifkadmljokffaaW.PrintMore
attribute [local go_sem] max2_int min2_int max_two min_two max_three min_three max_four min_four   -- for this text's walks alone
set_option linter.unusedVariables false
set_option linter.unusedSimpArgs false

/-! ### changeforgeequal_Strings_0: function 17 -/
def changeforgeequal_Strings_0.l0 : Nat → List ByteArray → List ByteArray → Int → Option (Bool)
  | 0, _, _, _ => none
  | k + 1, x0, x1, x5 => if x5 < (x0.length : Int) then (if 0 ≤ x5 then (if x5 < (x1.length : Int) then (if (rdOf ByteArray.empty x0 x5).toList = (rdOf ByteArray.empty x1 x5).toList then (changeforgeequal_Strings_0.l0 k x0 x1 (wrap64 (x5 + 1))) else (some false)) else (none)) else (none)) else (some true)
def changeforgeequal_Strings_0.f (k : Nat) (l0 : List ByteArray) (l1 : List ByteArray) : Option (Bool) := if (l0.length : Int) = (l1.length : Int) then (changeforgeequal_Strings_0.l0 k l0 l1 0) else (some false)
theorem changeforgeequal_Strings_0.mono_l : ∀ k, (∀ y0 y1 y2, LeO (changeforgeequal_Strings_0.l0 k y0 y1 y2) (changeforgeequal_Strings_0.l0 (k + 1) y0 y1 y2))
  | 0 => fun _ _ _ r h => by simp [changeforgeequal_Strings_0.l0] at h
  | k + 1 => by
    have ih0 := changeforgeequal_Strings_0.mono_l k
    · intro y0 y1 y2
      unfold changeforgeequal_Strings_0.l0
      repeat' first
      | (with_reducible exact ih0 _ _ _)
      | (with_reducible exact LeO.refl _)
      | (with_reducible exact LeO.none _)
      | (with_reducible refine LeO.ite ?_ ?_)
      | (with_reducible refine LeO.bind ?_ (fun _ => ?_))
      | exact ih0 _ _ _
      | exact LeO.none _
      | refine LeO.ite ?_ ?_
      | refine LeO.bind ?_ (fun _ => ?_)
theorem changeforgeequal_Strings_0.mono : ∀ a0 a1 k, LeO (changeforgeequal_Strings_0.f k a0 a1) (changeforgeequal_Strings_0.f (k + 1) a0 a1) := by
  intro a0 a1 k
  have ih0 := changeforgeequal_Strings_0.mono_l k
  unfold changeforgeequal_Strings_0.f
  repeat' first
      | (with_reducible exact ih0 _ _ _)
      | (with_reducible exact LeO.refl _)
      | (with_reducible exact LeO.none _)
      | (with_reducible refine LeO.ite ?_ ?_)
      | (with_reducible refine LeO.bind ?_ (fun _ => ?_))
      | exact ih0 _ _ _
      | exact LeO.none _
      | refine LeO.ite ?_ ?_
      | refine LeO.bind ?_ (fun _ => ?_)
set_option maxHeartbeats 8000000 in
set_option maxRecDepth 100000 in
theorem changeforgeequal_Strings_0.calls (k : Nat) (A0 : Option Addr) (c0 : Nat) (l0 : List ByteArray) (A1 : Option Addr) (c1 : Nat) (l1 : List ByteArray) (r : Bool) (w : World) (hr0 : Kd.C Kd.string w A0 l0.length l0) (hc0 : l0.length ≤ c0) (hr1 : Kd.C Kd.string w A1 l1.length l1) (hc1 : l1.length ≤ c1) (h : changeforgeequal_Strings_0.f k l0 l1 = some r) :
    Calls Try.prog 17 #[.slice A0 l0.length c0, .slice A1 l1.length c1] w fun e w' => e = .returned (.bool r) ∧ Drawn0 w w' := by
  have HR0 := Aside0.mk hr0;have HC0 := Aside0.mk hc0;clear hr0 hc0;have HR1 := Aside0.mk hr1;have HC1 := Aside0.mk hc1;clear hr1 hc1;have H : (if (l0.length : Int) = (l1.length : Int) then (changeforgeequal_Strings_0.l0 k l0 l1 0) else (some false)) = some r := h;clear h
  by_cases c3 : (l0.length : Int) = (l1.length : Int)
  · rw [if_pos c3] at H;have c3b0 : ((l0.length : Int) == (l1.length : Int)) = true := beq_iff_eq.mpr c3;have c3b1 : ((l0.length : Int) != (l1.length : Int)) = false := bne_eq_false_iff_eq.mpr c3;have c3b2 : (l0.length == l1.length) = true := (by first|simpa using c3|(simp at c3 ⊢;omega));clear c3;have H' := Aside0.mk H;clear H
    go_enter Try.func17, Try.ntmps17
    go_wp2
    repeat (go_quiet (fail);try go_wp2)
    go_loopg [5] k (fun kq v5 w' => ∃ (x5_1 : Int), v5 = .int .i64 x5_1 ∧ Aside0 (changeforgeequal_Strings_0.l0 kq l0 l1 x5_1 = some r) ∧ Aside0 (kq ≤ k) ∧ Drawn0 w w')
    case atStart => exact ⟨(0), (by first|rfl|(simp only [i64_w, i32_w];done)|(simp only [i64_w, i32_w];rfl)|(simp;done)|(simp [*];done)), H', ⟨Nat.le_refl _⟩, by repeat (first|exact Drawn0.refl _|apply Drawn0.step)⟩
    case round =>
      clear H'
      try clear c1
      try clear p2
      try clear c3
      try clear c3b0
      try clear c3b1
      try clear c3b2
      obtain ⟨x5_1, rfl, HA, HK1, ⟨m1, rfl⟩⟩ := hrel
      cases gk with
      | zero => exact absurd HA.out (by simp [changeforgeequal_Strings_0.l0])
      | succ k1 =>
        have H := HA.out;clear HA;simp only [changeforgeequal_Strings_0.l0] at H
        by_cases c4 : x5_1 < (l0.length : Int)
        · rw [if_pos c4] at H;have c4b0 : decide (x5_1 < (l0.length : Int)) = true := decide_eq_true c4;clear c4
          by_cases c5 : 0 ≤ x5_1
          · rw [if_pos c5] at H;have c5b0 : decide (0 ≤ x5_1) = true := decide_eq_true c5;clear c5
            by_cases c6 : x5_1 < (l1.length : Int)
            · rw [if_pos c6] at H;have c6b0 : decide (x5_1 < (l1.length : Int)) = true := decide_eq_true c6;clear c6
              by_cases c7 : (rdOf ByteArray.empty l0 x5_1).toList = (rdOf ByteArray.empty l1 x5_1).toList
              · rw [if_pos c7] at H;have c7b0 : ((rdOf ByteArray.empty l0 x5_1).toList == (rdOf ByteArray.empty l1 x5_1).toList) = true := beq_iff_eq.mpr c7;have c7b1 : ((rdOf ByteArray.empty l0 x5_1).toList != (rdOf ByteArray.empty l1 x5_1).toList) = false := bne_eq_false_iff_eq.mpr c7;clear c7;have H' := Aside0.mk H;clear H;have p119 : 0 ≤ (x5_1 : Int) := dA;have q119 : x5_1 < (l0.length : Int) := dA;obtain ⟨ad119, e119, hx119_0⟩ := Kd.at_string HR0.out x5_1 p119 q119
                cases e119
                replace p119 := eq_true p119;replace q119 := eq_true q119;have p120 : 0 ≤ (x5_1 : Int) := dA;have q120 : x5_1 < (l1.length : Int) := dA;obtain ⟨ad120, e120, hx120_0⟩ := Kd.at_string HR1.out x5_1 p120 q120
                cases e120
                replace p120 := eq_true p120;replace q120 := eq_true q120
                go_wp2
                repeat (go_quiet (fail);try go_wp2)
                go_roundg k1
                case measure => have := HK1.out;omega
                case rel => exact ⟨(wrap64 (x5_1 + 1)), (by first|rfl|(simp only [i64_w, i32_w];done)|(simp only [i64_w, i32_w];rfl)|(simp;done)|(simp [*];done)), H', ⟨by have := HK1.out;omega⟩, by repeat (first|exact Drawn0.refl _|apply Drawn0.step)⟩
              · rw [if_neg c7] at H;have c7b0 : ((rdOf ByteArray.empty l0 x5_1).toList == (rdOf ByteArray.empty l1 x5_1).toList) = false := beq_eq_false_iff_ne.mpr c7;have c7b1 : ((rdOf ByteArray.empty l0 x5_1).toList != (rdOf ByteArray.empty l1 x5_1).toList) = true := bne_iff_ne.mpr c7;obtain rfl := Option.some.inj H;have p119 : 0 ≤ (x5_1 : Int) := dA;have q119 : x5_1 < (l0.length : Int) := dA;obtain ⟨ad119, e119, hx119_0⟩ := Kd.at_string HR0.out x5_1 p119 q119
                cases e119
                replace p119 := eq_true p119;replace q119 := eq_true q119;have p120 : 0 ≤ (x5_1 : Int) := dA;have q120 : x5_1 < (l1.length : Int) := dA;obtain ⟨ad120, e120, hx120_0⟩ := Kd.at_string HR1.out x5_1 p120 q120
                cases e120
                replace p120 := eq_true p120;replace q120 := eq_true q120
                go_wp2
                repeat (go_quiet (fail);try go_wp2)
                go_ret
                exact ⟨by first|rfl|(simp;done)|(simp [*];done), by repeat (first|exact Drawn0.refl _|apply Drawn0.step)⟩
            · rw [if_neg c6] at H;exact absurd H (by simp)
          · rw [if_neg c5] at H;exact absurd H (by simp)
        · rw [if_neg c4] at H;have c4b0 : decide (x5_1 < (l0.length : Int)) = false := decide_eq_false c4;clear c4;obtain rfl := Option.some.inj H
          go_wp2
          repeat (go_quiet (fail);try go_wp2)
          go_ret
          exact ⟨by first|rfl|(simp;done)|(simp [*];done), by repeat (first|exact Drawn0.refl _|apply Drawn0.step)⟩
  · rw [if_neg c3] at H;have c3b0 : ((l0.length : Int) == (l1.length : Int)) = false := beq_eq_false_iff_ne.mpr c3;have c3b1 : ((l0.length : Int) != (l1.length : Int)) = true := bne_iff_ne.mpr c3;have c3b2 : (l0.length == l1.length) = false := (by first|simpa using c3|(simp at c3 ⊢;omega));obtain rfl := Option.some.inj H
    go_enter Try.func17, Try.ntmps17
    go_wp2
    repeat (go_quiet (fail);try go_wp2)
    go_ret
    exact ⟨by first|rfl|(simp;done)|(simp [*];done), by repeat (first|exact Drawn0.refl _|apply Drawn0.step)⟩

/-! ### changeforgeequal_Strings: function 17 -/
theorem changeforgeequal_Strings_0.loop (a b : List ByteArray) (hl : a.length = b.length) (hm : a.length ≤ 9223372036854775807) (d : Nat) : ∀ (k i : Nat), i ≤ a.length → a.length - i = d → d < k →
    changeforgeequal_Strings_0.l0 k a b (i : Int) = some (decide (a.drop i = b.drop i)) := by
  induction d with
  | zero =>
    intro k i hi hd hk
    obtain ⟨k, rfl⟩ : ∃ m, k = m + 1 := ⟨k - 1, by omega⟩
    simp only [changeforgeequal_Strings_0.l0]
    rw [if_neg (by omega), List.drop_eq_nil_of_le (by omega), List.drop_eq_nil_of_le (by omega)]
    rfl
  | succ d ih =>
    intro k i hi hd hk
    obtain ⟨k, rfl⟩ : ∃ m, k = m + 1 := ⟨k - 1, by omega⟩
    rw [rdOf_drop ByteArray.empty a i (by omega), rdOf_drop ByteArray.empty b i (by omega)]
    simp only [changeforgeequal_Strings_0.l0]
    rw [if_pos (by omega), if_pos (by omega), if_pos (by omega)]
    by_cases e : rdOf ByteArray.empty a (i : Int) = rdOf ByteArray.empty b (i : Int)
    · rw [if_pos (toList_inj.mpr e), w64 (by omega) (by omega)]
      have := ih k (i + 1) (by omega) (by omega) (by omega)
      rw [Int.natCast_add] at this
      rw [show (((1 : Nat) : Int)) = 1 from rfl] at this
      rw [this, e]
      simp
    · rw [if_neg (fun h => e (toList_inj.mp h))]
      simp [e]
def changeforgeequal_Strings.f (l0 : List ByteArray) (l1 : List ByteArray) : Option (Bool) :=  some (decide (l0 = l1))
theorem changeforgeequal_Strings.calls (A0 : Option Addr) (c0 : Nat) (l0 : List ByteArray) (A1 : Option Addr) (c1 : Nat) (l1 : List ByteArray) (r : Bool) (w : World) (hr0 : Kd.C Kd.string w A0 l0.length l0) (hc0 : l0.length ≤ c0) (hr1 : Kd.C Kd.string w A1 l1.length l1) (hc1 : l1.length ≤ c1) (h : changeforgeequal_Strings.f l0 l1 = some r) :
    Calls Try.prog 17 #[.slice A0 l0.length c0, .slice A1 l1.length c1] w fun e w' => e = .returned (.bool r) ∧ Drawn0 w w' := by
  have hm : l0.length ≤ 9223372036854775807 := hr0.2.1
  have h' : changeforgeequal_Strings_0.f (l0.length + 1) l0 l1 = some r := by
    rw [← h]
    unfold changeforgeequal_Strings_0.f changeforgeequal_Strings.f
    by_cases c : l0.length = l1.length
    · rw [if_pos (by omega)]
      have := changeforgeequal_Strings_0.loop l0 l1 c hm l0.length (l0.length + 1) 0 (by omega) (by omega) (by omega)
      simpa using this
    · rw [if_neg (by omega)]
      have : ¬ l0 = l1 := fun e => c (by rw [e])
      simp [this]
  exact (changeforgeequal_Strings_0.calls (l0.length + 1) A0 c0 l0 A1 c1 l1 r w hr0 hc0 hr1 hc1 (h'))


/-! ### changeforgelaw1_split: function 32 -/
def changeforgelaw1_split.f  : Option (Bool) := (worddiff_Tokens.f (⟨#[97, 49, 32, 43, 32, 98]⟩ : ByteArray)).bind fun bt121 => (if bt121.2.1 = 0 then ((changeforgeequal_Strings.f bt121.1 (([(⟨#[97, 49]⟩ : ByteArray), (⟨#[32]⟩ : ByteArray), (⟨#[43]⟩ : ByteArray), (⟨#[32]⟩ : ByteArray), (⟨#[98]⟩ : ByteArray)] : List ByteArray))).bind fun t130 => (some t130)) else (some false))
set_option maxHeartbeats 8000000 in
set_option maxRecDepth 100000 in
theorem changeforgelaw1_split.calls  (r : Bool) (w : World) (h : changeforgelaw1_split.f  = some r) :
    Calls Try.prog 32 #[] w fun e w' => e = .returned (.bool r) ∧ Below w.heap.size w w' := by
  have hu24 := Try.underlying24;have HB := Aside0.mk (Below.refl w.heap.size w);have H : ((worddiff_Tokens.f (⟨#[97, 49, 32, 43, 32, 98]⟩ : ByteArray)).bind fun bt121 => (if bt121.2.1 = 0 then ((changeforgeequal_Strings.f bt121.1 (([(⟨#[97, 49]⟩ : ByteArray), (⟨#[32]⟩ : ByteArray), (⟨#[43]⟩ : ByteArray), (⟨#[32]⟩ : ByteArray), (⟨#[98]⟩ : ByteArray)] : List ByteArray))).bind fun t130 => (some t130)) else (some false))) = some r := h;clear h;replace H := Option.bind_eq_some_iff.mp H;obtain ⟨⟨t121, t124, t125⟩, A10, H⟩ := H;replace H : (if t124 = 0 then ((changeforgeequal_Strings.f t121 (([(⟨#[97, 49]⟩ : ByteArray), (⟨#[32]⟩ : ByteArray), (⟨#[43]⟩ : ByteArray), (⟨#[32]⟩ : ByteArray), (⟨#[98]⟩ : ByteArray)] : List ByteArray))).bind fun t130 => (some t130)) else (some false)) = some r := H;have A1 := Aside0.mk A10;clear A10
  by_cases c2 : t124 = 0
  · rw [if_pos c2] at H;have c2b0 : (t124 == 0) = true := beq_iff_eq.mpr c2;have c2b1 : (t124 != 0) = false := bne_eq_false_iff_eq.mpr c2;clear c2;obtain ⟨y127, hy127⟩ : ∃ y_ : List ByteArray, y_ = (([(⟨#[97, 49]⟩ : ByteArray), (⟨#[32]⟩ : ByteArray), (⟨#[43]⟩ : ByteArray), (⟨#[32]⟩ : ByteArray), (⟨#[98]⟩ : ByteArray)] : List ByteArray)) := ⟨_, rfl⟩;replace H : ((changeforgeequal_Strings.f t121 y127).bind fun t130 => (some t130)) = some r := (by first|(rw [hy127];with_reducible exact H)|(have H2_ := (Option.bind_some _ _).symm.trans H;rw [hy127];with_reducible exact H2_)|(have H2_ := (Option.bind_some _ _).symm.trans H;with_reducible exact H2_)|with_reducible exact H|(rw [hy127];exact H)|exact H);have Ny127 := Aside0.mk hy127;clear hy127;replace H := Option.bind_eq_some_iff.mp H;obtain ⟨t130, A30, H⟩ := H;replace H : (some t130) = some r := H;have A3 := Aside0.mk A30;clear A30;obtain rfl := Option.some.inj H
    go_enter Try.func32, Try.ntmps32
    go_wp2_with (first|((with_reducible refine gate_callee (f := 31) rfl ?_);refine goesL_ (some 4) rfl rfl Try.func31 (by kernel_rfl) rfl #[.string (⟨#[97, 49, 32, 43, 32, 98]⟩ : ByteArray)] rfl mA ?_;(with_reducible refine (worddiff_Tokens.calls (⟨#[97, 49, 32, 43, 32, 98]⟩ : ByteArray) t121 t124 t125 _ A1.out).mono ?_);rintro e w4 ⟨v122, rfl, ho0, hb⟩;refine ⟨_, rfl, ?_⟩;have HO123 := Aside0.mk (Kd.R_lower ho0 (below_size eB));replace HB := sBe HB hb;(try clear hb ho0))|((with_reducible refine gate_dst (N := 2) rfl ?_);(try (refine gate_guard (by rfl) ?_;dsimp only));refine bE 2 #[.int .i64 0, .int .i64 0] 24 ?_;intro gb126 hg w5 hbox hb;have BK126 := Aside0.mk (hbox);have GW126 := gBe HB hg;have GE126 := gBe HB hg;replace HO123 := rL HO123 hb;replace HB := sBe HB hb;clear hb hbox hg;have hcz6_0 := hC BK126 0 (.int .i64 0);have hcz6_1 := hC BK126 1 (.int .i64 0);have hfz6_0 := blk_frozen BK126.out 0;have hfz6_1 := blk_frozen BK126.out 1)|((with_reducible refine gate_dst (N := 12) rfl ?_);(try (refine gate_guard (by rfl) ?_;dsimp only));refine Kd.R_lit Kd.string _ 9 ?hg (N := 12) ?hd (xs := ([(⟨#[97, 49]⟩ : ByteArray), (⟨#[32]⟩ : ByteArray), (⟨#[43]⟩ : ByteArray), (⟨#[32]⟩ : ByteArray), (⟨#[98]⟩ : ByteArray)] : List ByteArray)) (inner := [.string (⟨#[97, 49]⟩ : ByteArray), .string (⟨#[32]⟩ : ByteArray), .string (⟨#[43]⟩ : ByteArray), .string (⟨#[32]⟩ : ByteArray), .string (⟨#[98]⟩ : ByteArray)]) (ok := fun _ => True) (okp := fun _ => True) ?hr ?hp (fun _ hk => hk) trivial (Below.refl _ _) (Nat.le_refl _) (by simp) ?_;(case hd => rfl);(case hg => rfl);(case hr => first|(go_simp;done)|(go_simp;rfl));(case hp => exact (Reps.one (show Kd.M Kd.string _ _ _ (⟨#[97, 49]⟩ : ByteArray) [.string (⟨#[97, 49]⟩ : ByteArray)] from rfl) (Reps.one (show Kd.M Kd.string _ _ _ (⟨#[32]⟩ : ByteArray) [.string (⟨#[32]⟩ : ByteArray)] from rfl) (Reps.one (show Kd.M Kd.string _ _ _ (⟨#[43]⟩ : ByteArray) [.string (⟨#[43]⟩ : ByteArray)] from rfl) (Reps.one (show Kd.M Kd.string _ _ _ (⟨#[32]⟩ : ByteArray) [.string (⟨#[32]⟩ : ByteArray)] from rfl) (Reps.one (show Kd.M Kd.string _ _ _ (⟨#[98]⟩ : ByteArray) [.string (⟨#[98]⟩ : ByteArray)] from rfl) (Reps.none _ _)))))));intro v128 w7 ho8 hb hg_ hnew_;clear hg_ hnew_;(first|rw [← Ny127.out] at ho8|(simp only [Int.reduceToNat] at ho8;rw [← Ny127.out] at ho8));have HO129 := Aside0.mk (Kd.R_lower (Kd.R_new' ho8 (Kd.R_lt (by (with_reducible repeat first|apply rA|apply rN|apply rD);exact (Kd.R_mono (Kd.R_far (p := ⟨gb126, 1, none⟩) (Kd.R_far (p := ⟨gb126, 0, none⟩) (Kd.R_types HO123.out BK126.out (by decide)) (fun _ hk => hk.2) (.int .i64 t124)) (fun _ hk => hk.2) (.int .i64 t125)) (fun _ h_ => h_.1))))) (below_size eB));replace HO123 := Aside0.mk (Kd.R_elder' (by (with_reducible repeat first|apply rA|apply rN|apply rD);exact (Kd.R_mono (Kd.R_far (p := ⟨gb126, 1, none⟩) (Kd.R_far (p := ⟨gb126, 0, none⟩) (Kd.R_types HO123.out BK126.out (by decide)) (fun _ hk => hk.2) (.int .i64 t124)) (fun _ hk => hk.2) (.int .i64 t125)) (fun _ h_ => h_.1))) (Kd.R_base ho8) hb);replace BK126 := lK gb126 24 #[.int .i64 t124, .int .i64 t125] hb;replace HB := sBe HB hb;clear hb ho8;obtain ⟨Ao9, co9, eo9⟩ := Kd.R_slice HO123.out;subst eo9;obtain ⟨Ao10, co10, eo10⟩ := Kd.R_slice HO129.out;subst eo10)|(go_at_call 17;(with_reducible refine (changeforgeequal_Strings.calls _ _ t121 _ _ y127 t130 _ ?side1 ?side2 ?side3 ?side4 A3.out).mono ?_);(case side1 => repeat (first|exact (Kd.R_reads' HO123.out).2.2|(with_reducible refine Kd.C_alloc ?_ _)|(with_reducible refine Kd.C_drewN ?_ _)|(with_reducible refine Kd.C_drew ?_)));(case side2 => exact (Kd.R_reads' HO123.out).2.1);(case side3 => repeat (first|exact (Kd.R_reads' HO129.out).2.2|(with_reducible refine Kd.C_alloc ?_ _)|(with_reducible refine Kd.C_drewN ?_ _)|(with_reducible refine Kd.C_drew ?_)));(case side4 => exact (Kd.R_reads' HO129.out).2.1);rintro e w' ⟨rfl, ⟨nd, rfl⟩⟩))
    go_ret
    exact ⟨rW, eB⟩
  · rw [if_neg c2] at H;have c2b0 : (t124 == 0) = false := beq_eq_false_iff_ne.mpr c2;have c2b1 : (t124 != 0) = true := bne_iff_ne.mpr c2;obtain rfl := Option.some.inj H
    go_enter Try.func32, Try.ntmps32
    go_wp2_with (first|((with_reducible refine gate_callee (f := 31) rfl ?_);refine goesL_ (some 4) rfl rfl Try.func31 (by kernel_rfl) rfl #[.string (⟨#[97, 49, 32, 43, 32, 98]⟩ : ByteArray)] rfl mA ?_;(with_reducible refine (worddiff_Tokens.calls (⟨#[97, 49, 32, 43, 32, 98]⟩ : ByteArray) t121 t124 t125 _ A1.out).mono ?_);rintro e w11 ⟨v122, rfl, ho0, hb⟩;refine ⟨_, rfl, ?_⟩;have HO123 := Aside0.mk (Kd.R_lower ho0 (below_size eB));replace HB := sBe HB hb;(try clear hb ho0))|((with_reducible refine gate_dst (N := 2) rfl ?_);(try (refine gate_guard (by rfl) ?_;dsimp only));refine bE 2 #[.int .i64 0, .int .i64 0] 24 ?_;intro gb126 hg w12 hbox hb;have BK126 := Aside0.mk (hbox);have GW126 := gBe HB hg;have GE126 := gBe HB hg;replace HO123 := rL HO123 hb;replace HB := sBe HB hb;clear hb hbox hg;have hcz13_0 := hC BK126 0 (.int .i64 0);have hcz13_1 := hC BK126 1 (.int .i64 0);have hfz13_0 := blk_frozen BK126.out 0;have hfz13_1 := blk_frozen BK126.out 1))
    go_ret
    exact ⟨rW, eB⟩

/-! ### changeforgelaw1_together_0: function 33 -/
def changeforgelaw1_together_0.l0 : Nat → List ByteArray → ByteArray → Int → Option (ByteArray)
  | 0, _, _, _ => none
  | k + 1, x0, x3, x4 => if x4 < (x0.length : Int) then (if 0 ≤ x4 then (if x3.size + (rdOf ByteArray.empty x0 x4).size ≤ 9223372036854775807 then (changeforgelaw1_together_0.l0 k x0 (x3 ++ (rdOf ByteArray.empty x0 x4)) (wrap64 (x4 + 1))) else (none)) else (none)) else (some x3)
def changeforgelaw1_together_0.f (k : Nat) (l0 : List ByteArray) : Option (ByteArray) := changeforgelaw1_together_0.l0 k l0 (⟨#[]⟩ : ByteArray) 0
theorem changeforgelaw1_together_0.mono_l : ∀ k, (∀ y0 y1 y2, LeO (changeforgelaw1_together_0.l0 k y0 y1 y2) (changeforgelaw1_together_0.l0 (k + 1) y0 y1 y2))
  | 0 => fun _ _ _ r h => by simp [changeforgelaw1_together_0.l0] at h
  | k + 1 => by
    have ih0 := changeforgelaw1_together_0.mono_l k
    · intro y0 y1 y2
      unfold changeforgelaw1_together_0.l0
      repeat' first
      | (with_reducible exact ih0 _ _ _)
      | (with_reducible exact LeO.refl _)
      | (with_reducible exact LeO.none _)
      | (with_reducible refine LeO.ite ?_ ?_)
      | (with_reducible refine LeO.bind ?_ (fun _ => ?_))
      | exact ih0 _ _ _
      | exact LeO.none _
      | refine LeO.ite ?_ ?_
      | refine LeO.bind ?_ (fun _ => ?_)
theorem changeforgelaw1_together_0.mono : ∀ a0 k, LeO (changeforgelaw1_together_0.f k a0) (changeforgelaw1_together_0.f (k + 1) a0) := by
  intro a0 k
  have ih0 := changeforgelaw1_together_0.mono_l k
  unfold changeforgelaw1_together_0.f
  repeat' first
      | (with_reducible exact ih0 _ _ _)
      | (with_reducible exact LeO.refl _)
      | (with_reducible exact LeO.none _)
      | (with_reducible refine LeO.ite ?_ ?_)
      | (with_reducible refine LeO.bind ?_ (fun _ => ?_))
      | exact ih0 _ _ _
      | exact LeO.none _
      | refine LeO.ite ?_ ?_
      | refine LeO.bind ?_ (fun _ => ?_)
set_option maxHeartbeats 8000000 in
set_option maxRecDepth 100000 in
theorem changeforgelaw1_together_0.calls (k : Nat) (A0 : Option Addr) (c0 : Nat) (l0 : List ByteArray) (r : ByteArray) (w : World) (hr0 : Kd.C Kd.string w A0 l0.length l0) (hc0 : l0.length ≤ c0) (h : changeforgelaw1_together_0.f k l0 = some r) :
    Calls Try.prog 33 #[.slice A0 l0.length c0] w fun e w' => e = .returned (.string r) ∧ Drawn0 w w' := by
  have HR0 := Aside0.mk hr0;have HC0 := Aside0.mk hc0;clear hr0 hc0;have H : (changeforgelaw1_together_0.l0 k l0 (⟨#[]⟩ : ByteArray) 0) = some r := h;clear h;have H' := Aside0.mk H;clear H
  go_enter Try.func33, Try.ntmps33
  go_wp2
  go_loopg [3, 4] k (fun kq v3 v4 w' => ∃ (x3_1 : ByteArray) (x4_1 : Int), v3 = .string x3_1 ∧ v4 = .int .i64 x4_1 ∧ Aside0 (changeforgelaw1_together_0.l0 kq l0 x3_1 x4_1 = some r) ∧ Aside0 (kq ≤ k) ∧ Drawn0 w w')
  case atStart => exact ⟨((⟨#[]⟩ : ByteArray)), (0), (by first|rfl|(simp only [i64_w, i32_w];done)|(simp only [i64_w, i32_w];rfl)|(simp;done)|(simp [*];done)), (by first|rfl|(simp only [i64_w, i32_w];done)|(simp only [i64_w, i32_w];rfl)|(simp;done)|(simp [*];done)), H', ⟨Nat.le_refl _⟩, by repeat (first|exact Drawn0.refl _|apply Drawn0.step)⟩
  case round =>
    clear H';obtain ⟨x3_1, x4_1, rfl, rfl, HA, HK1, ⟨m1, rfl⟩⟩ := hrel
    cases gk with
    | zero => exact absurd HA.out (by simp [changeforgelaw1_together_0.l0])
    | succ k1 =>
      have H := HA.out;clear HA;simp only [changeforgelaw1_together_0.l0] at H
      by_cases c2 : x4_1 < (l0.length : Int)
      · rw [if_pos c2] at H;have c2b0 : decide (x4_1 < (l0.length : Int)) = true := decide_eq_true c2;clear c2
        by_cases c3 : 0 ≤ x4_1
        · rw [if_pos c3] at H;have c3b0 : decide (0 ≤ x4_1) = true := decide_eq_true c3;clear c3
          by_cases c4 : x3_1.size + (rdOf ByteArray.empty l0 x4_1).size ≤ 9223372036854775807
          · rw [if_pos c4] at H;have c4b0 := eq_true c4;have c4b1 : decide (x3_1.size + (rdOf ByteArray.empty l0 x4_1).size ≤ 9223372036854775807) = true := decide_eq_true c4
            try have c4b2 : (9223372036854775807 < x3_1.size + (rdOf ByteArray.empty l0 x4_1).size) = False := eq_false (Nat.not_lt.2 c4)
            have H' := Aside0.mk H;clear H;have p131 : 0 ≤ (x4_1 : Int) := dA;have q131 : x4_1 < (l0.length : Int) := dA;obtain ⟨ad131, e131, hx131_0⟩ := Kd.at_string HR0.out x4_1 p131 q131
            cases e131
            replace p131 := eq_true p131;replace q131 := eq_true q131
            go_wp2
            go_roundg k1
            case measure => have := HK1.out;omega
            case rel => exact ⟨(x3_1 ++ (rdOf ByteArray.empty l0 x4_1)), (wrap64 (x4_1 + 1)), (by first|rfl|(simp only [i64_w, i32_w];done)|(simp only [i64_w, i32_w];rfl)|(simp;done)|(simp [*];done)), (by first|rfl|(simp only [i64_w, i32_w];done)|(simp only [i64_w, i32_w];rfl)|(simp;done)|(simp [*];done)), H', ⟨by have := HK1.out;omega⟩, by repeat (first|exact Drawn0.refl _|apply Drawn0.step)⟩
          · rw [if_neg c4] at H;exact absurd H (by simp)
        · rw [if_neg c3] at H;exact absurd H (by simp)
      · rw [if_neg c2] at H;have c2b0 : decide (x4_1 < (l0.length : Int)) = false := decide_eq_false c2;clear c2;obtain rfl := Option.some.inj H
        go_wp2
        go_ret
        exact ⟨by first|rfl|(simp;done)|(simp [*];done), by repeat (first|exact Drawn0.refl _|apply Drawn0.step)⟩

/-! ### changeforgelaw1_together: function 33 -/
theorem changeforgelaw1_together_0.loop (l : List ByteArray) (hl : l.length ≤ 9223372036854775806) (d : Nat) : ∀ (k i : Nat) (s : ByteArray), i ≤ l.length → l.length - i = d → d < k → s.size + (flatStr (l.drop i)).size ≤ 9223372036854775807 → changeforgelaw1_together_0.l0 k l s (i : Int) = some (s ++ flatStr (l.drop i)) := by
  induction d with
  | zero =>
    intro k i s hi hd hk hs
    obtain ⟨k, rfl⟩ : ∃ m, k = m + 1 := ⟨k - 1, by omega⟩
    simp only [changeforgelaw1_together_0.l0]
    rw [if_neg (by omega), List.drop_eq_nil_of_le (by omega), flatStr_nil, ByteArray.append_empty]
  | succ d ih =>
    intro k i s hi hd hk hs
    obtain ⟨k, rfl⟩ : ∃ m, k = m + 1 := ⟨k - 1, by omega⟩
    rw [rdOf_drop ByteArray.empty l i (by omega), size_flatStr_cons] at hs
    rw [rdOf_drop ByteArray.empty l i (by omega), flatStr_cons]
    generalize hx : rdOf ByteArray.empty l (i : Int) = x at *
    simp only [changeforgelaw1_together_0.l0, hx]
    rw [if_pos (by omega), if_pos (by omega), if_pos (by omega), w64 (by omega) (by omega)]
    have := ih k (i + 1) (s ++ x) (by omega) (by omega) (by omega) (by rw [ByteArray.size_append]; omega)
    rw [Int.natCast_add] at this
    rw [ByteArray.append_assoc] at this
    exact this
def changeforgelaw1_together.f (l0 : List ByteArray) : Option (ByteArray) :=  if l0.length ≤ 9223372036854775806 ∧ (flatStr l0).size ≤ 9223372036854775807 then some (flatStr l0) else none
theorem changeforgelaw1_together.calls (A0 : Option Addr) (c0 : Nat) (l0 : List ByteArray) (r : ByteArray) (w : World) (hr0 : Kd.C Kd.string w A0 l0.length l0) (hc0 : l0.length ≤ c0) (h : changeforgelaw1_together.f l0 = some r) :
    Calls Try.prog 33 #[.slice A0 l0.length c0] w fun e w' => e = .returned (.string r) ∧ Drawn0 w w' := by
  have h' : changeforgelaw1_together_0.f (l0.length + 1) l0 = some r := by
    rw [← h]
    unfold changeforgelaw1_together_0.f changeforgelaw1_together.f
    by_cases c : l0.length ≤ 9223372036854775806 ∧ (flatStr l0).size ≤ 9223372036854775807
    · rw [if_pos c]
      have := changeforgelaw1_together_0.loop l0 c.1 l0.length (l0.length + 1) 0 ByteArray.empty (by omega) (by omega) (by omega) (by have := c.2; simpa using this)
      rw [ByteArray.empty_append] at this
      exact this
    · unfold changeforgelaw1_together.f at h
      rw [if_neg c] at h
      cases h
  exact (changeforgelaw1_together_0.calls (l0.length + 1) A0 c0 l0 r w hr0 hc0 (h'))


/-! ### worddiff_common: function 65 -/
def worddiff_common.f (l0 : List ByteArray) (l1 : List ByteArray) : Option ((List (List Int))) :=  if l0.length ≤ 1000 ∧ l1.length ≤ 1000 then some (lcsTab l0 l1) else none
theorem worddiff_common_info2 : (Try.prog.info? 3).map (fun i => (i.zero, i.size, i.bytes)) = some (some (.int .i64 0), 1, 8) := by kernel_rfl
theorem worddiff_common_info : (Try.prog.info? 63).map (fun i => (i.zero, i.size, i.bytes)) = some (some (.slice none 0 0), 1, 24) := by kernel_rfl
section
attribute [local irreducible] wpStill
set_option maxHeartbeats 40000000 in
set_option maxRecDepth 100000 in
theorem worddiff_common.calls (A0 : Option Addr) (c0 : Nat) (l0 : List ByteArray) (A1 : Option Addr) (c1 : Nat) (l1 : List ByteArray) (r : List (List Int)) (w : World) (hr0 : Kd.C Kd.string w A0 l0.length l0) (hc0 : l0.length ≤ c0) (hr1 : Kd.C Kd.string w A1 l1.length l1) (hc1 : l1.length ≤ c1) (h : worddiff_common.f l0 l1 = some r) :
    Calls Try.prog 65 #[.slice A0 l0.length c0, .slice A1 l1.length c1] w fun e w' => ∃ v0_ : Value, e = .returned (v0_) ∧ Kd.S (Kd.slice 3 (Kd.int .i64)) 63 w' w.heap.size (fun _ => True) v0_ r ∧ Below w.heap.size w w' := by
  replace h : (if l0.length ≤ 1000 ∧ l1.length ≤ 1000 then some (lcsTab l0 l1) else none) = some r := h
  obtain ⟨⟨hm, hn⟩, hr⟩ : (l0.length ≤ 1000 ∧ l1.length ≤ 1000) ∧ lcsTab l0 l1 = r := by
    split at h
    · rename_i hs; exact ⟨hs, Option.some.inj h⟩
    · cases h
  clear h
  have HR0 := Aside0.mk hr0
  have HR1 := Aside0.mk hr1
  have HR := Aside0.mk hr
  clear hr0 hr1 hr
  go_enter Try.func65, Try.ntmps65
  go_wp2_with ((with_reducible refine gate_dst (N := 11) rfl ?_); refine Kd.S_make (Kd.slice 3 (Kd.int .i64)) _ 63 rfl (N := 11) rfl 64 _ _ rfl ((l0.length : Int) + 1) rfl rfl Try.underlying64 (.slice none 0 0) 24 worddiff_common_info rfl (by decide) (by omega) [] (ok := fun _ => True) (okp := fun _ => True) ⟨_, rfl, Kd.R_nil _ _ _ _ _⟩ (fun _ hk => hk) trivial (by omega) (by omega) (Below.refl _ _) (Nat.le_refl _) ?_; intro v w1 ho hb hg_ hnew_; clear hg_ hnew_; obtain ⟨g, cap, rfl, hgb, hS⟩ := tab_made l0.length l1.length ho; rw [← tabI_start l0.length l1.length (lcsFrom l0 l1 (l0.length + 1) 0)] at hS; have HS := Aside0.mk hS; have HB := Aside0.mk hb; clear ho hb hS)
  go_loopw [6] (fun v6 wr => ∃ (iN : Nat) (x6 : Int), v6 = .int .i64 x6 ∧ Aside0 (x6 = (iN : Int) - 1 ∧ iN ≤ l0.length + 1) ∧ Aside0 (Kd.S (Kd.slice 3 (Kd.int .i64)) 63 wr w.heap.size (fun _ => True) (.slice (some ⟨g, 0, none⟩) (l0.length + 1) cap) (tabI l0.length l1.length iN (lcsFrom l0 l1 iN 0))) ∧ Aside0 (Below w.heap.size w wr)) (fun v6 wr => (intOf v6 + 1).toNat)
  case atStart => exact ⟨l0.length + 1, _, rfl, ⟨by omega, Nat.le_refl _⟩, HS, HB⟩
  case round =>
    clear HS HB
    obtain ⟨iN, x6, rfl, HI, HS, HB⟩ := hrel
    obtain ⟨hi1, hi2⟩ := HI.out
    cases iN with
    | zero =>
      have hneg : x6 < 0 := by omega
      clear hi1 HI
      rw [lcsFrom_fullI, HR.out] at HS
      go_wp2
      refine bodyPost_ret (results_tmp rfl _ _ _) rfl ?_
      exact ⟨_, rfl, HS.out, HB.out⟩
    | succ i =>
      obtain rfl : x6 = (i : Int) := by omega
      clear hi1 HI
      go_wp2_with ((with_reducible refine gate_dst (N := 23) rfl ?_); refine Kd.R_make (Kd.int .i64) _ 3 rfl (N := 23) rfl 63 _ _ rfl ((l1.length : Int) + 1) rfl rfl Try.underlying63 (.int .i64 0) 8 worddiff_common_info2 rfl (by decide) (by omega) 0 (ok := fun _ => True) (okp := fun _ => True) rfl (fun _ hk => hk) trivial (by omega) (by omega) (Below.refl _ _) (Nat.le_refl _) ?_; intro v w2 ho hb hg_ hnew_; clear hg_ hnew_; obtain ⟨g2, cap2, A, c, rfl, hcell, hfr, hs2, hb2⟩ := tab_newrow HS.out HB.out hgb hb ho i (by omega); have HS2 := Aside0.mk hs2; have HB2 := Aside0.mk hb2; clear hs2 hb2 hb ho)
      rw [lcsFrom_new] at HS2
      clear HS HB
      go_loopw [7] (fun v7 wr => ∃ (jN : Nat) (x7 : Int), v7 = .int .i64 x7 ∧ Aside0 (x7 = (jN : Int) - 1 ∧ jN ≤ l1.length) ∧ Aside0 (Kd.S (Kd.slice 3 (Kd.int .i64)) 63 wr w.heap.size (fun _ => True) (.slice (some ⟨g, 0, none⟩) (l0.length + 1) cap) (tabI l0.length l1.length i (lcsFrom l0 l1 i jN))) ∧ Aside0 (Below w.heap.size w wr)) (fun v7 wr => (intOf v7 + 1).toNat)
      case atStart => exact ⟨l1.length, _, rfl, ⟨rfl, Nat.le_refl _⟩, HS2, HB2⟩
      case round =>
        clear HS2 HB2
        obtain ⟨jN, x7, rfl, HJ, HS, HB⟩ := hrel
        obtain ⟨hj1, hj2⟩ := HJ.out
        cases jN with
        | zero =>
          have hneg : x7 < 0 := by omega
          clear hj1 HJ
          go_wp2
          go_roundw
          case rel => exact ⟨i, _, rfl, ⟨by first | rfl | omega, by omega⟩, HS, HB⟩
          case measure => simp [intOf]
        | succ j =>
          by_cases hil : i < l0.length
          · obtain rfl : x7 = (j : Int) := by omega
            clear hj1 HJ
            have hjl : j < l1.length := by omega
            have b0 : (i : Int) < (l0.length : Int) + 1 := by omega
            have b2 : (j : Int) < (l1.length : Int) + 1 := by omega
            obtain ⟨ad0, e0, hx0⟩ := Kd.at_string HR0.out (i : Int) (by omega) (by omega)
            obtain ⟨ad1, e1, hx1⟩ := Kd.at_string HR1.out (j : Int) (by omega) (by omega)
            cases e0
            cases e1
            rw [Int.toNat_natCast] at hx0 hx1
            replace hx0 := (HB.out.cell (World.block_lt_of_cell? w _ hx0)).trans hx0
            replace hx1 := (HB.out.cell (World.block_lt_of_cell? w _ hx1)).trans hx1
            have hst := lcsAt_step l0 l1 i j (by omega) (by omega)
            generalize rdOf ByteArray.empty l0 (i : Int) = s at *
            generalize rdOf ByteArray.empty l1 (j : Int) = t at *
            have HST := Aside0.mk hst
            clear hst
            by_cases c : s.toList = t.toList
            · have b1 : (s.toList == t.toList) = true := by simp [c]
              have C := Aside0.mk c
              clear c
              go_wp2_with fail
              refine still_drew (by kernel_rfl) (by kernel_rfl) ?_
              iterate 9 (refine still_yes (by kernel_rfl) (fun K hK => ?_); go_simp; refine hK _ ?_; clear hK K)
              refine wpStill_nil ?_
              go_wp2_with fail
              have hsd := Kd.S_drew HS.out
              have HBd := Aside0.mk HB.out.drew
              clear hx0 hx1
              generalize wr.drew = wd at *
              clear HS HB
              obtain ⟨gi, ci, hci, hli, hbi, hri, hseti⟩ := tabI_get hsd i (Nat.le_refl _) (by omega)
              obtain ⟨gk, ck, hck, hlk, hbk, hrk, _⟩ := tabI_get hsd (i + 1) (by omega) (by omega)
              have v1 := (hrk (j + 1) (by omega)).1
              obtain ⟨v0, f0⟩ := hri j (by omega)
              rw [lcsFrom_at l0 l1 (by omega)] at v1
              have hrg := lcsAt_range l0 l1 (i + 1) (j + 1)
              have hs := hseti j (lcsAt l0 l1 (i + 1) (j + 1) + 1)
              have e := HST.out
              rw [if_pos C.out] at e
              rw [← e, lcsFrom_set, e] at hs
              have HS' := Aside0.mk hs
              clear hs e hsd hri hrk hseti
              generalize lcsAt l0 l1 (i + 1) (j + 1) = x at *
              have ei0 : (0 : Int) ≤ (i : Int) + 1 := by omega
              have ei1 : (i : Int) + 1 < (l0.length : Int) + 1 := by omega
              have ei2 : ((i : Int) + 1).toNat = i + 1 := by omega
              have ej0 : (0 : Int) ≤ (j : Int) + 1 := by omega
              have ej1 : (j : Int) + 1 < (l1.length : Int) + 1 := by omega
              have ej2 : ((j : Int) + 1).toNat = j + 1 := by omega
              have ei3 : IntKind.i64.wrap ((i : Int) + 1) = (i : Int) + 1 := (i64_w _).trans (w64 (by omega) (by omega))
              have ej3 : IntKind.i64.wrap ((j : Int) + 1) = (j : Int) + 1 := (i64_w _).trans (w64 (by omega) (by omega))
              have ex3 : IntKind.i64.wrap (x + 1) = x + 1 := (i64_w _).trans (w64 (by omega) (by omega))
              refine still_tail_drew 15 (by kernel_rfl) (by kernel_rfl) ?_
              simp only [List.take_succ_cons, List.take_zero, List.drop_succ_cons, List.drop_zero]
              iterate 15 (refine still_yes (by kernel_rfl) (fun K hK => ?_); go_simp; refine hK _ ?_; clear hK K)
              refine wpStill_nil ?_
              go_wp2
              go_roundw
              case rel => exact ⟨j, _, rfl, ⟨by first | rfl | omega, by omega⟩, ⟨Kd.S_drew HS'.out⟩, ⟨(HBd.out.setCell (p := ⟨gi, j, none⟩) hbi _).drew⟩⟩
              case measure => simp [intOf]
            · have b1 : (s.toList == t.toList) = false := by simp [c]
              have C := Aside0.mk c
              clear c
              go_wp2_with fail
              refine still_drew (by kernel_rfl) (by kernel_rfl) ?_
              iterate 9 (refine still_yes (by kernel_rfl) (fun K hK => ?_); go_simp; refine hK _ ?_; clear hK K)
              refine wpStill_nil ?_
              go_wp2_with fail
              have hsd := Kd.S_drew HS.out
              have HBd := Aside0.mk HB.out.drew
              clear hx0 hx1
              generalize wr.drew = wd at *
              clear HS HB
              obtain ⟨gi, ci, hci, hli, hbi, hri, hseti⟩ := tabI_get hsd i (Nat.le_refl _) (by omega)
              obtain ⟨gk, ck, hck, hlk, hbk, hrk, _⟩ := tabI_get hsd (i + 1) (by omega) (by omega)
              have v1 := (hrk j (by omega)).1
              have v2 := (hri (j + 1) (by omega)).1
              obtain ⟨v0, f0⟩ := hri j (by omega)
              rw [lcsFrom_at l0 l1 (by omega)] at v1 v2
              have hs := hseti j (mx (lcsAt l0 l1 (i + 1) j) (lcsAt l0 l1 i (j + 1)))
              have e := HST.out
              rw [if_neg C.out] at e
              rw [← e, lcsFrom_set, e] at hs
              have HS' := Aside0.mk hs
              clear hs e hsd hri hrk hseti
              generalize lcsAt l0 l1 (i + 1) j = x at *
              generalize lcsAt l0 l1 i (j + 1) = y at *
              have ei0 : (0 : Int) ≤ (i : Int) + 1 := by omega
              have ei1 : (i : Int) + 1 < (l0.length : Int) + 1 := by omega
              have ei2 : ((i : Int) + 1).toNat = i + 1 := by omega
              have ej0 : (0 : Int) ≤ (j : Int) + 1 := by omega
              have ej1 : (j : Int) + 1 < (l1.length : Int) + 1 := by omega
              have ej2 : ((j : Int) + 1).toNat = j + 1 := by omega
              have ei3 : IntKind.i64.wrap ((i : Int) + 1) = (i : Int) + 1 := (i64_w _).trans (w64 (by omega) (by omega))
              have ej3 : IntKind.i64.wrap ((j : Int) + 1) = (j : Int) + 1 := (i64_w _).trans (w64 (by omega) (by omega))
              refine still_tail_drew 22 (by kernel_rfl) (by kernel_rfl) ?_
              simp only [List.take_succ_cons, List.take_zero, List.drop_succ_cons, List.drop_zero]
              iterate 22 (refine still_yes (by kernel_rfl) (fun K hK => ?_); go_simp; refine hK _ ?_; clear hK K)
              refine wpStill_nil ?_
              go_wp2
              go_roundw
              case rel => exact ⟨j, _, rfl, ⟨by first | rfl | omega, by omega⟩, ⟨Kd.S_drew HS'.out⟩, ⟨(HBd.out.setCell (p := ⟨gi, j, none⟩) hbi _).drew⟩⟩
              case measure => simp [intOf]
          · obtain rfl : i = l0.length := by omega
            clear hil
            rw [lcsFrom_last] at HS
            obtain rfl : x7 = (j : Int) := by omega
            clear hj1 HJ
            go_wp2
            go_roundw
            case rel => exact ⟨l0.length, _, rfl, ⟨by first | rfl | omega, by omega⟩, HS, HB⟩
            case measure => simp [intOf]
end


end Go.Proofs.Ytifkadmljokffaa.PK
