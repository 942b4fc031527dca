/- Printed by a program of this session out of the translation: Lean functions for Go functions, and proofs that the Go functions answer the same. -/
import Derived.Test.YtdnnkhogpobjbaaPY0
import Derived.Test.YtdnnkhogpobjbaaPY1
namespace Go.Proofs.Ytdnnkhogpobjbaa.PY
open Go.RowKit Go.Proofs.Ytdnnkhogpobjbaa.Pre Go.Proofs.YtdnnkhogpobjbaaW.PrintWords Go.Proofs.YtdnnkhogpobjbaaW.PrintLast Go.Proofs.YtdnnkhogpobjbaaW.PrintMore
attribute [local go_sem] max2_int min2_int max_two min_two max_three min_three max_four min_four   -- for this text's walks alone
set_option linter.unusedVariables false
set_option linter.unusedSimpArgs false

attribute [local go_sem high] eqA27
/-! ### textpatch_End: function 33 -/
def textpatch_End.f (a0_0 : Int) (l0_1 : List ByteArray) (l0_2 : List ByteArray) : Option (Int) := some (wrap64 (a0_0 + (l0_1.length : Int)))
set_option maxHeartbeats 8000000 in
set_option maxRecDepth 100000 in
theorem textpatch_End.calls (a0_0 : Int) (A0_1 : Option Addr) (c0_1 : Nat) (l0_1 : List ByteArray) (A0_2 : Option Addr) (c0_2 : Nat) (l0_2 : List ByteArray) (r : Int) (w : World) (hr0_1 : Kd.C Kd.string w A0_1 l0_1.length l0_1) (hc0_1 : l0_1.length ≤ c0_1) (hr0_2 : Kd.C Kd.string w A0_2 l0_2.length l0_2) (hc0_2 : l0_2.length ≤ c0_2) (h : textpatch_End.f a0_0 l0_1 l0_2 = some r) :
    Calls Try.prog 33 #[.agg #[.int .i64 a0_0, .slice A0_1 l0_1.length c0_1, .slice A0_2 l0_2.length c0_2]] w fun e w' => e = .returned (.int .i64 r) ∧ Below w.heap.size w w' := by
  have hu47 := Try.underlying47;have HR0_1 := Aside0.mk hr0_1;have HC0_1 := Aside0.mk hc0_1;clear hr0_1 hc0_1;have HR0_2 := Aside0.mk hr0_2;have HC0_2 := Aside0.mk hc0_2;clear hr0_2 hc0_2;have HB := Aside0.mk (Below.refl w.heap.size w);have H : (some (wrap64 (a0_0 + (l0_1.length : Int)))) = some r := h;clear h;obtain rfl := Option.some.inj H
  go_enter Try.func33, Try.ntmps33
  go_wp2_with (first|((with_reducible refine gate_dst (N := 1) rfl ?_);refine bE 1 #[.int .i64 a0_0, .slice A0_1 l0_1.length c0_1, .slice A0_2 l0_2.length c0_2] 47 ?_;intro gb101 hg w2 hbox hb;have BK101 := Aside0.mk (hbox);have GW101 := gBe HB hg;have GE101 := gBe HB hg;replace HB := sBe HB hb;clear hb hbox hg;have hcz3_0 := hC BK101 0 (.int .i64 a0_0);have hcz3_1 := hC BK101 1 (.slice A0_1 l0_1.length c0_1);have hcz3_2 := hC BK101 2 (.slice A0_2 l0_2.length c0_2);have hfz3_0 := blk_frozen BK101.out 0;have hfz3_1 := blk_frozen BK101.out 1;have hfz3_2 := blk_frozen BK101.out 2))
  go_ret
  exact ⟨rW, eB⟩

/-! ### strings_ContainsRune: function 67 -/
theorem indexByte_ge (c : UInt8) : ∀ l : List UInt8, decide (0 ≤ Lib.indexByte l c) = l.contains c ∧ -1 ≤ Lib.indexByte l c
  | [] => ⟨by simp [Lib.indexByte], by simp [Lib.indexByte]⟩
  | b :: l => by
    obtain ⟨ih1, ih2⟩ := indexByte_ge c l
    unfold Lib.indexByte
    by_cases h : b = c
    · subst h; simp
    · have hb : (b == c) = false := by simpa using h
      have hc : (c == b) = false := by simpa using fun e => h e.symm
      by_cases h2 : Lib.indexByte l c = -1
      · rw [h2] at ih1
        simp [h, h2] at ih1 ⊢
        exact ⟨fun e => h e.symm, ih1⟩
      · have h3 : (Lib.indexByte l c == -1) = false := by simpa using h2
        simp only [hb, h3, Bool.false_eq_true, if_false, List.contains_cons, hc, Bool.false_or]
        rw [← ih1]
        exact ⟨by rw [Bool.eq_iff_iff]; simp; omega, by omega⟩
def strings_ContainsRune.f (a0 : ByteArray) (a1 : Int) : Option (Bool) :=  if a1 = 10 then some (hasNl a0) else none
theorem strings_ContainsRune.calls (a0 : ByteArray) (a1 : Int) (r : Bool) (w : World) (h : strings_ContainsRune.f a0 a1 = some r) :
    Calls Try.prog 67 #[.string a0, .int .i32 a1] w fun e w' => e = .returned (.bool r) ∧ Drawn0 w w' := by
  unfold strings_ContainsRune.f at h
  split at h
  · rename_i e
    subst e
    obtain rfl := Option.some.inj h
    refine (Go.Proofs.Try.strings_ContainsRune_ascii a0 10 w (by omega) (by omega)).mono ?_
    rintro e w' ⟨rfl, rfl⟩
    refine ⟨?_, Drawn0.refl _⟩
    have e10 : (10 : Int).toNat.toUInt8 = 10 := by decide
    rw [e10, (indexByte_ge 10 a0.data.toList).1]
    rfl
  · cases h


/-! ### lines_Validate_0: function 57 -/
def lines_Validate_0.l0 : Nat → List ByteArray → Int → Int → Option (Int × Int)
  | 0, _, _, _ => none
  | k + 1, x9, x10, x11 => if x11 < x10 then (if 0 ≤ x11 then (if x11 < (x9.length : Int) then (if ((rdOf ByteArray.empty x9 x11).size : Int) > 80 then (some (2, x11)) else ((strings_ContainsRune.f (rdOf ByteArray.empty x9 x11) 10).bind fun t104 => (if t104 = true then (some (5, x11)) else (lines_Validate_0.l0 k x9 x10 (wrap64 (x11 + 1)))))) else (none)) else (none)) else (some (0, 0))
def lines_Validate_0.f (k : Nat) (l0 : List ByteArray) : Option (Int × Int) := if (l0.length : Int) > 120 then (some (2, (-1))) else (lines_Validate_0.l0 k l0 (l0.length : Int) 0)
theorem lines_Validate_0.mono_l : ∀ k, (∀ y0 y1 y2, LeO (lines_Validate_0.l0 k y0 y1 y2) (lines_Validate_0.l0 (k + 1) y0 y1 y2))
  | 0 => fun _ _ _ r h => by simp [lines_Validate_0.l0] at h
  | k + 1 => by
    have ih0 := lines_Validate_0.mono_l k
    · intro y0 y1 y2
      unfold lines_Validate_0.l0
      repeat' first
      | (with_reducible exact ih0 _ _ _)
      | (with_reducible exact LeO.refl _)
      | (with_reducible exact LeO.none _)
      | (with_reducible refine LeO.ite ?_ ?_)
      | (with_reducible refine LeO.bind ?_ (fun _ => ?_))
      | exact ih0 _ _ _
      | exact LeO.none _
      | refine LeO.ite ?_ ?_
      | refine LeO.bind ?_ (fun _ => ?_)
theorem lines_Validate_0.mono : ∀ a0 k, LeO (lines_Validate_0.f k a0) (lines_Validate_0.f (k + 1) a0) := by
  intro a0 k
  have ih0 := lines_Validate_0.mono_l k
  unfold lines_Validate_0.f
  repeat' first
      | (with_reducible exact ih0 _ _ _)
      | (with_reducible exact LeO.refl _)
      | (with_reducible exact LeO.none _)
      | (with_reducible refine LeO.ite ?_ ?_)
      | (with_reducible refine LeO.bind ?_ (fun _ => ?_))
      | exact ih0 _ _ _
      | exact LeO.none _
      | refine LeO.ite ?_ ?_
      | refine LeO.bind ?_ (fun _ => ?_)
set_option maxHeartbeats 8000000 in
set_option maxRecDepth 100000 in
theorem lines_Validate_0.calls (k : Nat) (A0 : Option Addr) (c0 : Nat) (l0 : List ByteArray) (r1 : Int) (r2 : Int) (w : World) (hr0 : Kd.C Kd.string w A0 l0.length l0) (hc0 : l0.length ≤ c0) (h : lines_Validate_0.f k l0 = some (r1, r2)) :
    Calls Try.prog 57 #[.slice A0 l0.length c0] w fun e w' => e = .returned (.agg #[.int .i64 r1, .int .i64 r2]) ∧ Below w.heap.size w w' := by
  have hu27 := Try.underlying27;have HR0 := Aside0.mk hr0;have HC0 := Aside0.mk hc0;clear hr0 hc0;have HB := Aside0.mk (Below.refl w.heap.size w);have H : (if (l0.length : Int) > 120 then (some (2, (-1))) else (lines_Validate_0.l0 k l0 (l0.length : Int) 0)) = some (r1, r2) := h;clear h
  by_cases c2 : (l0.length : Int) > 120
  · rw [if_pos c2] at H;have c2b0 : decide (120 < (l0.length : Int)) = true := decide_eq_true c2;have c2b1 : decide (120 < l0.length) = true := decide_eq_true (by omega);clear c2;simp only [Option.some.injEq, Prod.mk.injEq] at H;obtain ⟨rfl, rfl⟩ := H
    go_enter Try.func57, Try.ntmps57
    go_wp2_with (first|((with_reducible refine gate_dst (N := 2) rfl ?_);refine bE 2 #[.int .i64 0, .int .i64 0] 27 ?_;intro gb102 hg w3 hbox hb;have BK102 := Aside0.mk (hbox);have GW102 := gBe HB hg;have GE102 := gBe HB hg;replace HB := sBe HB hb;clear hb hbox hg;have hcz4_0 := hC BK102 0 (.int .i64 0);have hcz4_1 := hC BK102 1 (.int .i64 0);have hfz4_0 := blk_frozen BK102.out 0;have hfz4_1 := blk_frozen BK102.out 1))
    refine bodyPost_ret (results_cell_row rfl _ _ gb102 27 #[.int .i64 2, .int .i64 (-1)] (0, 0) _ rfl kK Try.underlying27 rfl (by kernel_rfl)) rfl ?_;exact ⟨rW, eB⟩
  · rw [if_neg c2] at H;have c2b0 : decide (120 < (l0.length : Int)) = false := decide_eq_false c2;have c2b1 : decide (120 < l0.length) = false := decide_eq_false (by omega);clear c2;have H' := Aside0.mk H;clear H
    go_enter Try.func57, Try.ntmps57
    go_wp2_with (first|((with_reducible refine gate_dst (N := 2) rfl ?_);refine bE 2 #[.int .i64 0, .int .i64 0] 27 ?_;intro gb102 hg w5 hbox hb;have BK102 := Aside0.mk (hbox);have GW102 := gBe HB hg;have GE102 := gBe HB hg;replace HB := sBe HB hb;clear hb hbox hg))
    go_loopg [11] k (fun kq v11 w' => ∃ (x11_1 : Int) (x103000_1 : Int) (x103001_1 : Int), v11 = .int .i64 x11_1 ∧ Aside0 (lines_Validate_0.l0 kq l0 (l0.length : Int) x11_1 = some (r1, r2)) ∧ Aside0 (kq ≤ k) ∧ Bk w' gb102 27 #[.int .i64 x103000_1, .int .i64 x103001_1] ∧ Aside0 (Below w.heap.size w w'))
    case atStart => exact ⟨(0), (0), (0), (by first|rfl|(simp only [i64_w, i32_w];done)|(simp only [i64_w, i32_w];rfl)|(simp;done)|(simp [*];done)), H', ⟨Nat.le_refl _⟩, ⟨kK⟩, ⟨eB⟩⟩
    case round =>
      clear H'
      try clear c2
      try clear c2b0
      try clear c2b1
      try clear p2
      try clear c5
      try clear hcz4_0
      try clear hcz4_1
      try clear hfz4_0
      try clear hfz4_1
      obtain ⟨x11_1, x103000_1, x103001_1, rfl, HA, HK1, BK102, HB⟩ := hrel
      cases gk with
      | zero => exact absurd HA.out (by simp [lines_Validate_0.l0])
      | succ k1 =>
        have H := HA.out;clear HA;simp only [lines_Validate_0.l0] at H
        by_cases c6 : x11_1 < (l0.length : Int)
        · rw [if_pos c6] at H;have c6b0 : decide (x11_1 < (l0.length : Int)) = true := decide_eq_true c6;clear c6
          by_cases c7 : 0 ≤ x11_1
          · rw [if_pos c7] at H;have c7b0 : decide (0 ≤ x11_1) = true := decide_eq_true c7;clear c7
            by_cases c8 : x11_1 < (l0.length : Int)
            · rw [if_pos c8] at H;have c8b0 : decide (x11_1 < (l0.length : Int)) = true := decide_eq_true c8;clear c8
              by_cases c9 : ((rdOf ByteArray.empty l0 x11_1).size : Int) > 80
              · rw [if_pos c9] at H;have c9b0 : decide (80 < ((rdOf ByteArray.empty l0 x11_1).size : Int)) = true := decide_eq_true c9;have c9b1 : decide (80 < (rdOf ByteArray.empty l0 x11_1).size) = true := decide_eq_true (by omega);clear c9;simp only [Option.some.injEq, Prod.mk.injEq] at H;obtain ⟨rfl, rfl⟩ := H;have p103 : 0 ≤ (x11_1 : Int) := dA;have q103 : x11_1 < (l0.length : Int) := dA;obtain ⟨ad103, e103, hx103_0⟩ := Kd.at_string HR0.out x11_1 p103 q103
                cases e103
                replace hx103_0 := (hX HB hx103_0:);replace p103 := eq_true p103;replace q103 := eq_true q103;have hcz10_0 : wr.cell? ⟨gb102, 0, none⟩ = some (.int .i64 x103000_1) := (blk_cell BK102.out 0).trans rfl;have hcz10_1 : wr.cell? ⟨gb102, 1, none⟩ = some (.int .i64 x103001_1) := (blk_cell BK102.out 1).trans rfl;have hfz10_0 := blk_frozen BK102.out 0;have hfz10_1 := blk_frozen BK102.out 1
                go_wp2
                refine bodyPost_ret (results_cell_row rfl _ _ gb102 27 #[.int .i64 2, .int .i64 x11_1] (0, 0) _ rfl kK Try.underlying27 rfl (by kernel_rfl)) rfl ?_;exact ⟨rW, eB⟩
              · rw [if_neg c9] at H;have c9b0 : decide (80 < ((rdOf ByteArray.empty l0 x11_1).size : Int)) = false := decide_eq_false c9;have c9b1 : decide (80 < (rdOf ByteArray.empty l0 x11_1).size) = false := decide_eq_false (by omega);clear c9;replace H := Option.bind_eq_some_iff.mp H;obtain ⟨t104, A110, H⟩ := H;replace H : (if t104 = true then (some (5, x11_1)) else (lines_Validate_0.l0 k1 l0 (l0.length : Int) (wrap64 (x11_1 + 1)))) = some (r1, r2) := H;have A11 := Aside0.mk A110;clear A110
                by_cases c12 : t104 = true
                · subst c12;have H1 : (some (5, x11_1)) = some (r1, r2) := (by rw [if_pos rfl] at H;exact H);clear H;have H := H1;clear H1;simp only [Option.some.injEq, Prod.mk.injEq] at H;obtain ⟨rfl, rfl⟩ := H;have p103 : 0 ≤ (x11_1 : Int) := dA;have q103 : x11_1 < (l0.length : Int) := dA;obtain ⟨ad103, e103, hx103_0⟩ := Kd.at_string HR0.out x11_1 p103 q103
                  cases e103
                  replace hx103_0 := (hX HB hx103_0:);replace p103 := eq_true p103;replace q103 := eq_true q103
                  go_wp2_with (first|((with_reducible refine gate_callee (f := 67) rfl ?_);refine goesL_ (some 24) rfl rfl Try.func67 (by kernel_rfl) rfl #[.string (rdOf ByteArray.empty l0 x11_1), .int .i32 10] rfl mA ?_;(with_reducible refine (strings_ContainsRune.calls (rdOf ByteArray.empty l0 x11_1) 10 true _ A11.out).mono ?_);rintro e w' ⟨rfl, ⟨nd, rfl⟩⟩;refine ⟨_, rfl, ?_⟩;(try (rw [drewN_self wr];generalize hq_ : World.drewN wr _ = wr;have n0_ : Aside0 (wr.heap[gb102]? = some (.cells #[.int .i64 x103000_1, .int .i64 x103001_1] 27 (0, 0))) := ⟨by rw [← hq_];exact kK⟩;have n1_ : Aside0 (Below w.heap.size w wr) := ⟨by rw [← hq_];exact eB⟩;clear BK102 HB hq_;have BK102 := n0_;have HB := n1_;clear n0_ n1_));have hcz13_0 : wr.cell? ⟨gb102, 0, none⟩ = some (.int .i64 x103000_1) := (blk_cell BK102.out 0).trans rfl;have hcz13_1 : wr.cell? ⟨gb102, 1, none⟩ = some (.int .i64 x103001_1) := (blk_cell BK102.out 1).trans rfl;have hfz13_0 := blk_frozen BK102.out 0;have hfz13_1 := blk_frozen BK102.out 1))
                  refine bodyPost_ret (results_cell_row rfl _ _ gb102 27 #[.int .i64 5, .int .i64 x11_1] (0, 0) _ rfl kK Try.underlying27 rfl (by kernel_rfl)) rfl ?_;exact ⟨rW, eB⟩
                · replace c12 := Bool.eq_false_iff.mpr c12;subst c12;have H1 : (lines_Validate_0.l0 k1 l0 (l0.length : Int) (wrap64 (x11_1 + 1))) = some (r1, r2) := (by rw [if_neg (show ¬ (false = true) by decide)] at H;exact H);clear H;have H := H1;clear H1;have H' := Aside0.mk H;clear H;have p103 : 0 ≤ (x11_1 : Int) := dA;have q103 : x11_1 < (l0.length : Int) := dA;obtain ⟨ad103, e103, hx103_0⟩ := Kd.at_string HR0.out x11_1 p103 q103
                  cases e103
                  replace hx103_0 := (hX HB hx103_0:);replace p103 := eq_true p103;replace q103 := eq_true q103
                  go_wp2_with (first|((with_reducible refine gate_callee (f := 67) rfl ?_);refine goesL_ (some 24) rfl rfl Try.func67 (by kernel_rfl) rfl #[.string (rdOf ByteArray.empty l0 x11_1), .int .i32 10] rfl mA ?_;(with_reducible refine (strings_ContainsRune.calls (rdOf ByteArray.empty l0 x11_1) 10 false _ A11.out).mono ?_);rintro e w' ⟨rfl, ⟨nd, rfl⟩⟩;refine ⟨_, rfl, ?_⟩))
                  go_roundg k1
                  case measure => have := HK1.out;omega
                  case rel => exact ⟨(wrap64 (x11_1 + 1)), (x103000_1), (x103001_1), (by first|rfl|(simp only [i64_w, i32_w];done)|(simp only [i64_w, i32_w];rfl)|(simp;done)|(simp [*];done)), H', ⟨by have := HK1.out;omega⟩, ⟨kK⟩, ⟨eB⟩⟩
            · rw [if_neg c8] at H;exact absurd H (by simp)
          · rw [if_neg c7] at H;exact absurd H (by simp)
        · rw [if_neg c6] at H;have c6b0 : decide (x11_1 < (l0.length : Int)) = false := decide_eq_false c6;clear c6;simp only [Option.some.injEq, Prod.mk.injEq] at H;obtain ⟨rfl, rfl⟩ := H;have hcz14_0 : wr.cell? ⟨gb102, 0, none⟩ = some (.int .i64 x103000_1) := (blk_cell BK102.out 0).trans rfl;have hcz14_1 : wr.cell? ⟨gb102, 1, none⟩ = some (.int .i64 x103001_1) := (blk_cell BK102.out 1).trans rfl;have hfz14_0 := blk_frozen BK102.out 0;have hfz14_1 := blk_frozen BK102.out 1
          go_wp2
          refine bodyPost_ret (results_cell_row rfl _ _ gb102 27 #[.int .i64 0, .int .i64 0] (0, 0) _ rfl kK Try.underlying27 rfl (by kernel_rfl)) rfl ?_;exact ⟨rW, eB⟩

/-! ### lines_Validate: function 57 -/
theorem lines_Validate_0.loop (l : List ByteArray) (hl : l.length ≤ 120) (d : Nat) : ∀ (k i : Nat), i ≤ l.length → l.length - i = d → d < k → lines_Validate_0.l0 k l (l.length : Int) (i : Int) = some (faultAt (l.drop i) (i : Int)) := by
  induction d with
  | zero =>
    intro k i hi hd hk
    obtain ⟨k, rfl⟩ : ∃ m, k = m + 1 := ⟨k - 1, by omega⟩
    simp only [lines_Validate_0.l0]
    rw [if_neg (by omega), List.drop_eq_nil_of_le (by omega)]
    rfl
  | succ d ih =>
    intro k i hi hd hk
    obtain ⟨k, rfl⟩ : ∃ m, k = m + 1 := ⟨k - 1, by omega⟩
    rw [rdOf_drop ByteArray.empty l i (by omega)]
    generalize hs : rdOf ByteArray.empty l (i : Int) = s
    simp only [lines_Validate_0.l0, hs]
    rw [if_pos (by omega), if_pos (by omega), if_pos (by omega)]
    simp only [faultAt]
    by_cases h1 : 80 < s.size
    · rw [if_pos (by omega), if_pos h1]
    · rw [if_neg (by omega), if_neg h1]
      simp only [strings_ContainsRune.f, if_true, Option.bind_some]
      by_cases h2 : hasNl s = true
      · rw [if_pos h2, if_pos h2]
      · rw [if_neg h2, if_neg h2, w64 (by omega) (by omega)]
        have := ih k (i + 1) (by omega) (by omega) (by omega)
        rw [Int.natCast_add] at this
        exact this
def lines_Validate.f (l0 : List ByteArray) : Option (Int × Int) :=  some (linesFault l0)
theorem lines_Validate.calls (A0 : Option Addr) (c0 : Nat) (l0 : List ByteArray) (r1 : Int) (r2 : Int) (w : World) (hr0 : Kd.C Kd.string w A0 l0.length l0) (hc0 : l0.length ≤ c0) (h : lines_Validate.f l0 = some (r1, r2)) :
    Calls Try.prog 57 #[.slice A0 l0.length c0] w fun e w' => e = .returned (.agg #[.int .i64 r1, .int .i64 r2]) ∧ Below w.heap.size w w' := by
  have h' : lines_Validate_0.f 121 l0 = some (r1, r2) := by
    rw [← h]
    unfold lines_Validate_0.f lines_Validate.f linesFault
    by_cases c : 120 < l0.length
    · rw [if_pos (by omega), if_pos c]
    · rw [if_neg (by omega), if_neg c]
      exact lines_Validate_0.loop l0 (by omega) l0.length 121 0 (by omega) (by omega) (by omega)
  exact (lines_Validate_0.calls (121) A0 c0 l0 r1 r2 w hr0 hc0 (h'))


/-! ### lines_Code_0: function 32 -/
def lines_Code_0.f (l0 : List ByteArray) : Option (Int) := (lines_Validate.f l0).bind fun bt105 => (some bt105.1)
set_option maxHeartbeats 8000000 in
set_option maxRecDepth 100000 in
theorem lines_Code_0.calls (A0 : Option Addr) (c0 : Nat) (l0 : List ByteArray) (r : Int) (w : World) (hr0 : Kd.C Kd.string w A0 l0.length l0) (hc0 : l0.length ≤ c0) (h : lines_Code_0.f l0 = some r) :
    Calls Try.prog 32 #[.slice A0 l0.length c0] w fun e w' => e = .returned (.int .i64 r) ∧ Below w.heap.size w w' := by
  have hu27 := Try.underlying27
  have HR0 := Aside0.mk hr0
  have HC0 := Aside0.mk hc0
  clear hr0 hc0
  have HB := Aside0.mk (Below.refl w.heap.size w)
  have H : ((lines_Validate.f l0).bind fun bt105 => (some bt105.1)) = some r := h
  clear h
  replace H := Option.bind_eq_some_iff.mp H
  obtain ⟨⟨t105, t106⟩, A20, H⟩ := H
  replace H : (some t105) = some r := H
  have A2 := Aside0.mk A20
  clear A20
  obtain rfl := Option.some.inj H
  have hfd27_0_ := fun (a0_ a1_ : Int) (w_ : World) => (show (Instr.field 27 (.agg #[.int .i64 a0_, .int .i64 a1_]) 0).run Try.prog w_ = .ok (.int .i64 a0_) w_ by kernel_rfl)
  go_enter Try.func32, Try.ntmps32
  go_wp2_with (first | ((with_reducible refine gate_callee (f := 57) rfl ?_); refine goesL_ (some 4) rfl rfl Try.func57 (by kernel_rfl) rfl #[.slice A0 l0.length c0] rfl (by (try simp only [List.map_toArray, List.map_cons, List.map_nil]); first | done | rfl | (simp only [List.length_drop, List.length_take]; rfl)) ?_; (with_reducible refine (lines_Validate.calls _ _ l0 t105 t106 _ ?side1 ?side2 A2.out).mono ?_); (case side1 => repeat (first | exact HR0.out | (with_reducible refine Kd.C_alloc ?_ _) | (with_reducible refine Kd.C_drewN ?_ _) | (with_reducible refine Kd.C_drew ?_))); (case side2 => exact HC0.out); rintro e w3 ⟨rfl, hb⟩; refine ⟨_, rfl, ?_⟩; have n0_ := Aside0.mk (below_step (by repeat (first | (with_reducible first | exact HB.out | apply below_alloc | apply pw_below_drewN | apply below_drew1) | exact HB.out)) hb); clear HB; have HB := n0_; clear n0_; (try clear hb); (try clear hb2); (try clear hk); (try clear hi)))
  go_ret
  exact ⟨by first | rfl | (simp [errW_none, errW_some] <;> rfl) | (simp [*, errW_none, errW_some] <;> rfl), by repeat (first | (with_reducible first | exact HB.out | apply below_alloc | apply pw_below_drewN | apply below_drew1) | exact HB.out)⟩

/-! ### lines_Code: function 32 -/
def lines_Code.f (l0 : List ByteArray) : Option (Int) :=  some (linesFault l0).1
theorem lines_Code.calls (A0 : Option Addr) (c0 : Nat) (l0 : List ByteArray) (r : Int) (w : World) (hr0 : Kd.C Kd.string w A0 l0.length l0) (hc0 : l0.length ≤ c0) (h : lines_Code.f l0 = some r) :
    Calls Try.prog 32 #[.slice A0 l0.length c0] w fun e w' => e = .returned (.int .i64 r) ∧ Below w.heap.size w w' := by
  have h' : lines_Code_0.f l0 = some r := h
  exact (lines_Code_0.calls A0 c0 l0 r w hr0 hc0 (h'))


/-! ### textpatch_hunkCode_0: function 43 -/
mutual
def textpatch_hunkCode_0.j0 : Nat → Int → Bool → Int → List ByteArray → List ByteArray → Option (Int)
  | 0, _, _, _, _, _ => none
  | k + 1, x1, x5, x108000, x108001, x108002 => if x5 = true then (some 3) else ((lines_Code.f x108001).bind fun t108 => (if t108 = 0 then ((lines_Code.f x108002).bind fun t109 => (if t109 = 0 then (if (x108001.length : Int) = 0 then (if (x108002.length : Int) = 0 then (textpatch_hunkCode_0.j1 k true x108000 x108001 x108002) else (textpatch_hunkCode_0.j1 k (decide (x108000 < x1)) x108000 x108001 x108002)) else (textpatch_hunkCode_0.j1 k (decide (x108000 < x1)) x108000 x108001 x108002)) else ((lines_Code.f x108002).bind fun t111 => (some t111)))) else ((lines_Code.f x108001).bind fun t112 => (some t112))))
def textpatch_hunkCode_0.j1 : Nat → Bool → Int → List ByteArray → List ByteArray → Option (Int)
  | 0, _, _, _, _ => none
  | k + 1, x30, x108000, x108001, x108002 => if x30 = true then (some 5) else ((textpatch_End.f x108000 x108001 x108002).bind fun t110 => (if t110 > 120 then (some 3) else (some 0)))
end
def textpatch_hunkCode_0.f (k : Nat) (a0_0 : Int) (l0_1 : List ByteArray) (l0_2 : List ByteArray) (a1 : Int) : Option (Int) := if a0_0 < 0 then (textpatch_hunkCode_0.j0 k a1 true a0_0 l0_1 l0_2) else (textpatch_hunkCode_0.j0 k a1 (decide (a0_0 > 120)) a0_0 l0_1 l0_2)
theorem textpatch_hunkCode_0.mono_l : ∀ k, (∀ y0 y1 y2 y3 y4, LeO (textpatch_hunkCode_0.j0 k y0 y1 y2 y3 y4) (textpatch_hunkCode_0.j0 (k + 1) y0 y1 y2 y3 y4)) ∧ (∀ y0 y1 y2 y3, LeO (textpatch_hunkCode_0.j1 k y0 y1 y2 y3) (textpatch_hunkCode_0.j1 (k + 1) y0 y1 y2 y3))
  | 0 => ⟨fun _ _ _ _ _ r h => by simp [textpatch_hunkCode_0.j0] at h, fun _ _ _ _ r h => by simp [textpatch_hunkCode_0.j1] at h⟩
  | k + 1 => by
    obtain ⟨ih0, ih1⟩ := textpatch_hunkCode_0.mono_l k;refine ⟨?_, ?_⟩
    · intro y0 y1 y2 y3 y4
      unfold textpatch_hunkCode_0.j0
      repeat' first
      | (with_reducible exact ih0 _ _ _ _ _)
      | (with_reducible exact ih1 _ _ _ _)
      | (with_reducible exact LeO.refl _)
      | (with_reducible exact LeO.none _)
      | (with_reducible refine LeO.ite ?_ ?_)
      | (with_reducible refine LeO.bind ?_ (fun _ => ?_))
      | exact ih0 _ _ _ _ _
      | exact ih1 _ _ _ _
      | exact LeO.none _
      | refine LeO.ite ?_ ?_
      | refine LeO.bind ?_ (fun _ => ?_)
    · intro y0 y1 y2 y3
      unfold textpatch_hunkCode_0.j1
      repeat' first
      | (with_reducible exact ih0 _ _ _ _ _)
      | (with_reducible exact ih1 _ _ _ _)
      | (with_reducible exact LeO.refl _)
      | (with_reducible exact LeO.none _)
      | (with_reducible refine LeO.ite ?_ ?_)
      | (with_reducible refine LeO.bind ?_ (fun _ => ?_))
      | exact ih0 _ _ _ _ _
      | exact ih1 _ _ _ _
      | exact LeO.none _
      | refine LeO.ite ?_ ?_
      | refine LeO.bind ?_ (fun _ => ?_)
theorem textpatch_hunkCode_0.mono : ∀ a0 a1 a2 a3 k, LeO (textpatch_hunkCode_0.f k a0 a1 a2 a3) (textpatch_hunkCode_0.f (k + 1) a0 a1 a2 a3) := by
  intro a0 a1 a2 a3 k
  obtain ⟨ih0, ih1⟩ := textpatch_hunkCode_0.mono_l k
  unfold textpatch_hunkCode_0.f
  repeat' first
      | (with_reducible exact ih0 _ _ _ _ _)
      | (with_reducible exact ih1 _ _ _ _)
      | (with_reducible exact LeO.refl _)
      | (with_reducible exact LeO.none _)
      | (with_reducible refine LeO.ite ?_ ?_)
      | (with_reducible refine LeO.bind ?_ (fun _ => ?_))
      | exact ih0 _ _ _ _ _
      | exact ih1 _ _ _ _
      | exact LeO.none _
      | refine LeO.ite ?_ ?_
      | refine LeO.bind ?_ (fun _ => ?_)
set_option maxHeartbeats 8000000 in
set_option maxRecDepth 100000 in
theorem textpatch_hunkCode_0.calls (k : Nat) (a0_0 : Int) (A0_1 : Option Addr) (c0_1 : Nat) (l0_1 : List ByteArray) (A0_2 : Option Addr) (c0_2 : Nat) (l0_2 : List ByteArray) (a1 : Int) (r : Int) (w : World) (hr0_1 : Kd.C Kd.string w A0_1 l0_1.length l0_1) (hc0_1 : l0_1.length ≤ c0_1) (hr0_2 : Kd.C Kd.string w A0_2 l0_2.length l0_2) (hc0_2 : l0_2.length ≤ c0_2) (h : textpatch_hunkCode_0.f k a0_0 l0_1 l0_2 a1 = some r) :
    Calls Try.prog 43 #[.agg #[.int .i64 a0_0, .slice A0_1 l0_1.length c0_1, .slice A0_2 l0_2.length c0_2], .int .i64 a1] w fun e w' => e = .returned (.int .i64 r) ∧ Below w.heap.size w w' := by
  have hu47 := Try.underlying47;have HR0_1 := Aside0.mk hr0_1;have HC0_1 := Aside0.mk hc0_1;clear hr0_1 hc0_1;have HR0_2 := Aside0.mk hr0_2;have HC0_2 := Aside0.mk hc0_2;clear hr0_2 hc0_2;have HB := Aside0.mk (Below.refl w.heap.size w);have H : (if a0_0 < 0 then (textpatch_hunkCode_0.j0 k a1 true a0_0 l0_1 l0_2) else (textpatch_hunkCode_0.j0 k a1 (decide (a0_0 > 120)) a0_0 l0_1 l0_2)) = some r := h;clear h;have HC3 := Aside0.mk H;clear H
  go_enter Try.func43, Try.ntmps43
  go_upto_region 1 with (first|((with_reducible refine gate_dst (N := 2) rfl ?_);(try (refine gate_guard (by rfl) ?_;dsimp only));refine bE 2 #[.int .i64 a0_0, .slice A0_1 l0_1.length c0_1, .slice A0_2 l0_2.length c0_2] 47 ?_;intro gb107 hg w4 hbox hb;have BK107 := Aside0.mk (hbox);have GW107 := gBe HB hg;have GE107 := gBe HB hg;replace HB := sBe HB hb;clear hb hbox hg))
  (try simp only [Act.put, sA, sB, sC])
  go_cut [5] (fun v5 wc => ∃ (kq : Nat) (x5_2 : Bool), v5 = .bool x5_2 ∧ Aside0 (textpatch_hunkCode_0.j0 kq a1 x5_2 a0_0 l0_1 l0_2 = some r) ∧ Aside0 (kq ≤ k) ∧ Aside0 (wc.heap[gb107]? = some (.cells #[.int .i64 a0_0, (.slice A0_1 l0_1.length c0_1), (.slice A0_2 l0_2.length c0_2)] 47 (0, 0))) ∧ Aside0 (Below w.heap.size w wc))
  case first =>
    have H := HC3.out;clear HC3
    by_cases c5 : a0_0 < 0
    · rw [if_pos c5] at H;have c5b0 : decide (a0_0 < 0) = true := decide_eq_true c5;clear c5
      (first|rw [c5b0]|(simp only [i64_w, i32_w];rw [c5b0])|skip)
      have H' := Aside0.mk H;clear H;have hcz6_0 := hC BK107 0 (.int .i64 a0_0);have hcz6_1 := hC BK107 1 (.slice A0_1 l0_1.length c0_1);have hcz6_2 := hC BK107 2 (.slice A0_2 l0_2.length c0_2);have hfz6_0 := blk_frozen BK107.out 0;have hfz6_1 := blk_frozen BK107.out 1;have hfz6_2 := blk_frozen BK107.out 2
      go_wp2
      go_meet
      case rel => exact ⟨_, (true), (by first|rfl|(simp only [i64_w, i32_w];done)|(simp only [i64_w, i32_w];rfl)|(simp;done)|(simp [*];done)), H', ⟨by first|omega|exact Nat.le_refl _⟩, ⟨kK⟩, ⟨eB⟩⟩
    · rw [if_neg c5] at H;have c5b0 : decide (a0_0 < 0) = false := decide_eq_false c5;clear c5
      (first|rw [c5b0]|(simp only [i64_w, i32_w];rw [c5b0])|skip)
      have H' := Aside0.mk H;clear H;have hcz7_0 := hC BK107 0 (.int .i64 a0_0);have hcz7_1 := hC BK107 1 (.slice A0_1 l0_1.length c0_1);have hcz7_2 := hC BK107 2 (.slice A0_2 l0_2.length c0_2);have hfz7_0 := blk_frozen BK107.out 0;have hfz7_1 := blk_frozen BK107.out 1;have hfz7_2 := blk_frozen BK107.out 2
      go_wp2
      go_meet
      case rel => exact ⟨_, (decide (a0_0 > 120)), (by first|rfl|(simp only [i64_w, i32_w];done)|(simp only [i64_w, i32_w];rfl)|(simp;done)|(simp [*];done)), H', ⟨by first|omega|exact Nat.le_refl _⟩, ⟨kK⟩, ⟨eB⟩⟩
  case rest =>
    clear HC3
    try clear p2
    try clear c4
    try clear c5
    try clear c5b0
    try clear hcz6_0
    try clear hcz6_1
    try clear hcz6_2
    try clear hcz7_0
    try clear hcz7_1
    try clear hcz7_2
    try clear hfz6_0
    try clear hfz6_1
    try clear hfz6_2
    try clear hfz7_0
    try clear hfz7_1
    try clear hfz7_2
    obtain ⟨kq, x5_2, rfl, HA, HJ2, BK107, HB⟩ := hcut
    cases kq with
    | zero => exact absurd HA.out (by simp [textpatch_hunkCode_0.j0])
    | succ kj2 =>
      have H := HA.out;clear HA;simp only [textpatch_hunkCode_0.j0] at H
      by_cases c8 : x5_2 = true
      · subst c8;have H1 : (some 3) = some r := (by rw [if_pos rfl] at H;exact H);clear H;have H := H1;clear H1;obtain rfl := Option.some.inj H
        go_wp2
        go_ret
        exact ⟨rW, eB⟩
      · replace c8 := Bool.eq_false_iff.mpr c8;subst c8;have H1 : ((lines_Code.f l0_1).bind fun t108 => (if t108 = 0 then ((lines_Code.f l0_2).bind fun t109 => (if t109 = 0 then (if (l0_1.length : Int) = 0 then (if (l0_2.length : Int) = 0 then (textpatch_hunkCode_0.j1 kj2 true a0_0 l0_1 l0_2) else (textpatch_hunkCode_0.j1 kj2 (decide (a0_0 < a1)) a0_0 l0_1 l0_2)) else (textpatch_hunkCode_0.j1 kj2 (decide (a0_0 < a1)) a0_0 l0_1 l0_2)) else ((lines_Code.f l0_2).bind fun t111 => (some t111)))) else ((lines_Code.f l0_1).bind fun t112 => (some t112)))) = some r := (by rw [if_neg (show ¬ (false = true) by decide)] at H;exact H);clear H;have H := H1;clear H1;replace H := Option.bind_eq_some_iff.mp H;obtain ⟨t108, A90, H⟩ := H;replace H : (if t108 = 0 then ((lines_Code.f l0_2).bind fun t109 => (if t109 = 0 then (if (l0_1.length : Int) = 0 then (if (l0_2.length : Int) = 0 then (textpatch_hunkCode_0.j1 kj2 true a0_0 l0_1 l0_2) else (textpatch_hunkCode_0.j1 kj2 (decide (a0_0 < a1)) a0_0 l0_1 l0_2)) else (textpatch_hunkCode_0.j1 kj2 (decide (a0_0 < a1)) a0_0 l0_1 l0_2)) else ((lines_Code.f l0_2).bind fun t111 => (some t111)))) else ((lines_Code.f l0_1).bind fun t112 => (some t112))) = some r := H;have A9 := Aside0.mk A90;clear A90
        by_cases c10 : t108 = 0
        · rw [if_pos c10] at H;have c10b0 : (t108 == 0) = true := beq_iff_eq.mpr c10;have c10b1 : (t108 != 0) = false := bne_eq_false_iff_eq.mpr c10;clear c10;replace H := Option.bind_eq_some_iff.mp H;obtain ⟨t109, A110, H⟩ := H;replace H : (if t109 = 0 then (if (l0_1.length : Int) = 0 then (if (l0_2.length : Int) = 0 then (textpatch_hunkCode_0.j1 kj2 true a0_0 l0_1 l0_2) else (textpatch_hunkCode_0.j1 kj2 (decide (a0_0 < a1)) a0_0 l0_1 l0_2)) else (textpatch_hunkCode_0.j1 kj2 (decide (a0_0 < a1)) a0_0 l0_1 l0_2)) else ((lines_Code.f l0_2).bind fun t111 => (some t111))) = some r := H;have A11 := Aside0.mk A110;clear A110
          by_cases c12 : t109 = 0
          · rw [if_pos c12] at H;have c12b0 : (t109 == 0) = true := beq_iff_eq.mpr c12;have c12b1 : (t109 != 0) = false := bne_eq_false_iff_eq.mpr c12;clear c12;have HC13 := Aside0.mk H;clear H;have hcz14_0 : wc.cell? ⟨gb107, 0, none⟩ = some (.int .i64 a0_0) := (blk_cell BK107.out 0).trans rfl;have hcz14_1 : wc.cell? ⟨gb107, 1, none⟩ = some (.slice A0_1 l0_1.length c0_1) := (blk_cell BK107.out 1).trans rfl;have hcz14_2 : wc.cell? ⟨gb107, 2, none⟩ = some (.slice A0_2 l0_2.length c0_2) := (blk_cell BK107.out 2).trans rfl;have hfz14_0 := blk_frozen BK107.out 0;have hfz14_1 := blk_frozen BK107.out 1;have hfz14_2 := blk_frozen BK107.out 2
            go_upto_region 7 with (first|((with_reducible refine gate_callee (f := 32) rfl ?_);refine goesL_ (some 17) rfl rfl Try.func32 (by kernel_rfl) rfl #[.slice A0_1 l0_1.length c0_1] rfl mA ?_;(with_reducible refine (lines_Code.calls _ _ l0_1 t108 _ ?side1 ?side2 A9.out).mono ?_);(case side1 => exact cBe HR0_1);(case side2 => exact HC0_1.out);rintro e w15 ⟨rfl, hb⟩;refine ⟨_, rfl, ?_⟩;replace BK107 := lJ BK107 hb;replace HB := sBe HB hb;(try clear hb);have hcz16_0 := hC BK107 0 (.int .i64 a0_0);have hcz16_1 := hC BK107 1 (.slice A0_1 l0_1.length c0_1);have hcz16_2 := hC BK107 2 (.slice A0_2 l0_2.length c0_2);have hfz16_0 := blk_frozen BK107.out 0;have hfz16_1 := blk_frozen BK107.out 1;have hfz16_2 := blk_frozen BK107.out 2)|((with_reducible refine gate_callee (f := 32) rfl ?_);refine goesL_ (some 25) rfl rfl Try.func32 (by kernel_rfl) rfl #[.slice A0_2 l0_2.length c0_2] rfl mA ?_;(with_reducible refine (lines_Code.calls _ _ l0_2 t109 _ ?side1 ?side2 A11.out).mono ?_);(case side1 => exact cBe HR0_2);(case side2 => exact HC0_2.out);rintro e w17 ⟨rfl, hb⟩;refine ⟨_, rfl, ?_⟩;replace BK107 := lJ BK107 hb;replace HB := sBe HB hb;(try clear hb)))
            (try simp only [Act.put, sA, sB, sC])
            go_cut [30] (fun v30 wc => ∃ (kq : Nat) (x30_12 : Bool), v30 = .bool x30_12 ∧ Aside0 (textpatch_hunkCode_0.j1 kq x30_12 a0_0 l0_1 l0_2 = some r) ∧ Aside0 (kq ≤ kj2) ∧ Aside0 (wc.heap[gb107]? = some (.cells #[.int .i64 a0_0, (.slice A0_1 l0_1.length c0_1), (.slice A0_2 l0_2.length c0_2)] 47 (0, 0))) ∧ Aside0 (Below w.heap.size w wc))
            case first =>
              have H := HC13.out;clear HC13
              by_cases c18 : (l0_1.length : Int) = 0
              · rw [if_pos c18] at H;have c18b0 : ((l0_1.length : Int) == 0) = true := beq_iff_eq.mpr c18;have c18b1 : ((l0_1.length : Int) != 0) = false := bne_eq_false_iff_eq.mpr c18;clear c18
                (first|rw [c18b0]|(simp only [i64_w, i32_w];rw [c18b0])|skip)
                have hcz20_0 := hC BK107 0 (.int .i64 a0_0);have hcz20_1 := hC BK107 1 (.slice A0_1 l0_1.length c0_1);have hcz20_2 := hC BK107 2 (.slice A0_2 l0_2.length c0_2);have hfz20_0 := blk_frozen BK107.out 0;have hfz20_1 := blk_frozen BK107.out 1;have hfz20_2 := blk_frozen BK107.out 2
                by_cases c19 : (l0_2.length : Int) = 0
                · rw [if_pos c19] at H;have c19b0 : ((l0_2.length : Int) == 0) = true := beq_iff_eq.mpr c19;have c19b1 : ((l0_2.length : Int) != 0) = false := bne_eq_false_iff_eq.mpr c19;clear c19;have H' := Aside0.mk H;clear H
                  go_wp2
                  go_meet
                  case rel => exact ⟨_, (true), (by first|rfl|(simp only [i64_w, i32_w];done)|(simp only [i64_w, i32_w];rfl)|(simp;done)|(simp [*];done)), H', ⟨by have := HJ2.out;first|omega|exact Nat.le_refl _⟩, ⟨kK⟩, ⟨eB⟩⟩
                · rw [if_neg c19] at H;have c19b0 : ((l0_2.length : Int) == 0) = false := beq_eq_false_iff_ne.mpr c19;have c19b1 : ((l0_2.length : Int) != 0) = true := bne_iff_ne.mpr c19;have c19b2 : ¬ (l0_2 = []) := (fun h_ => c19 (by rw [h_];rfl));have H' := Aside0.mk H;clear H
                  go_wp2
                  go_meet
                  case rel => exact ⟨_, (decide (a0_0 < a1)), (by first|rfl|(simp only [i64_w, i32_w];done)|(simp only [i64_w, i32_w];rfl)|(simp;done)|(simp [*];done)), H', ⟨by have := HJ2.out;first|omega|exact Nat.le_refl _⟩, ⟨kK⟩, ⟨eB⟩⟩
              · rw [if_neg c18] at H;have c18b0 : ((l0_1.length : Int) == 0) = false := beq_eq_false_iff_ne.mpr c18;have c18b1 : ((l0_1.length : Int) != 0) = true := bne_iff_ne.mpr c18;have c18b2 : ¬ (l0_1 = []) := (fun h_ => c18 (by rw [h_];rfl))
                (first|rw [c18b0]|(simp only [i64_w, i32_w];rw [c18b0])|skip)
                have H' := Aside0.mk H;clear H;have hcz22_0 := hC BK107 0 (.int .i64 a0_0);have hcz22_1 := hC BK107 1 (.slice A0_1 l0_1.length c0_1);have hcz22_2 := hC BK107 2 (.slice A0_2 l0_2.length c0_2);have hfz22_0 := blk_frozen BK107.out 0;have hfz22_1 := blk_frozen BK107.out 1;have hfz22_2 := blk_frozen BK107.out 2
                go_wp2
                go_meet
                case rel => exact ⟨_, (decide (a0_0 < a1)), (by first|rfl|(simp only [i64_w, i32_w];done)|(simp only [i64_w, i32_w];rfl)|(simp;done)|(simp [*];done)), H', ⟨by have := HJ2.out;first|omega|exact Nat.le_refl _⟩, ⟨kK⟩, ⟨eB⟩⟩
            case rest =>
              clear HC13
              try clear c1
              try clear p2
              try clear c3
              try clear c4
              try clear c5
              try clear c5b0
              try clear c8
              try clear c10
              try clear c10b0
              try clear c10b1
              try clear c12
              try clear c12b0
              try clear c12b1
              try clear c18
              try clear c18b0
              try clear c18b1
              try clear c18b2
              try clear c19
              try clear c19b0
              try clear c19b1
              try clear c19b2
              try clear hcz14_0
              try clear hcz14_1
              try clear hcz14_2
              try clear hcz16_0
              try clear hcz16_1
              try clear hcz16_2
              try clear hcz20_0
              try clear hcz20_1
              try clear hcz20_2
              try clear hcz21_0
              try clear hcz21_1
              try clear hcz21_2
              try clear hcz22_0
              try clear hcz22_1
              try clear hcz22_2
              try clear hcz6_0
              try clear hcz6_1
              try clear hcz6_2
              try clear hcz7_0
              try clear hcz7_1
              try clear hcz7_2
              try clear hfz14_0
              try clear hfz14_1
              try clear hfz14_2
              try clear hfz16_0
              try clear hfz16_1
              try clear hfz16_2
              try clear hfz20_0
              try clear hfz20_1
              try clear hfz20_2
              try clear hfz21_0
              try clear hfz21_1
              try clear hfz21_2
              try clear hfz22_0
              try clear hfz22_1
              try clear hfz22_2
              try clear hfz6_0
              try clear hfz6_1
              try clear hfz6_2
              try clear hfz7_0
              try clear hfz7_1
              try clear hfz7_2
              try clear p2
              obtain ⟨kq, x30_12, rfl, HA, HJ12, BK107, HB⟩ := hcut
              cases kq with
              | zero => exact absurd HA.out (by simp [textpatch_hunkCode_0.j1])
              | succ kj12 =>
                have H := HA.out;clear HA;simp only [textpatch_hunkCode_0.j1] at H
                by_cases c23 : x30_12 = true
                · subst c23;have H1 : (some 5) = some r := (by rw [if_pos rfl] at H;exact H);clear H;have H := H1;clear H1;obtain rfl := Option.some.inj H
                  go_wp2
                  go_ret
                  exact ⟨rW, eB⟩
                · replace c23 := Bool.eq_false_iff.mpr c23;subst c23;have H1 : ((textpatch_End.f a0_0 l0_1 l0_2).bind fun t110 => (if t110 > 120 then (some 3) else (some 0))) = some r := (by rw [if_neg (show ¬ (false = true) by decide)] at H;exact H);clear H;have H := H1;clear H1;replace H := Option.bind_eq_some_iff.mp H;obtain ⟨t110, A240, H⟩ := H;replace H : (if t110 > 120 then (some 3) else (some 0)) = some r := H;have A24 := Aside0.mk A240;clear A240;have hcz26_0 : wc.cell? ⟨gb107, 0, none⟩ = some (.int .i64 a0_0) := (blk_cell BK107.out 0).trans rfl;have hcz26_1 : wc.cell? ⟨gb107, 1, none⟩ = some (.slice A0_1 l0_1.length c0_1) := (blk_cell BK107.out 1).trans rfl;have hcz26_2 : wc.cell? ⟨gb107, 2, none⟩ = some (.slice A0_2 l0_2.length c0_2) := (blk_cell BK107.out 2).trans rfl;have hfz26_0 := blk_frozen BK107.out 0;have hfz26_1 := blk_frozen BK107.out 1;have hfz26_2 := blk_frozen BK107.out 2
                  by_cases c25 : t110 > 120
                  · rw [if_pos c25] at H;have c25b0 : decide (120 < t110) = true := decide_eq_true c25;clear c25;obtain rfl := Option.some.inj H
                    go_wp2_with (first|((with_reducible refine gate_callee (f := 33) rfl ?_);refine goesL_ (some 49) rfl rfl Try.func33 (by kernel_rfl) rfl #[.agg #[.int .i64 a0_0, .slice A0_1 l0_1.length c0_1, .slice A0_2 l0_2.length c0_2]] rfl mA ?_;(with_reducible refine (textpatch_End.calls a0_0 _ _ l0_1 _ _ l0_2 t110 _ ?side1 ?side2 ?side3 ?side4 A24.out).mono ?_);(case side1 => exact cBe HR0_1);(case side2 => exact HC0_1.out);(case side3 => exact cBe HR0_2);(case side4 => exact HC0_2.out);rintro e w27 ⟨rfl, hb⟩;refine ⟨_, rfl, ?_⟩;replace BK107 := lJ BK107 hb;replace HB := sBe HB hb;(try clear hb)))
                    go_ret
                    exact ⟨rW, eB⟩
                  · rw [if_neg c25] at H;have c25b0 : decide (120 < t110) = false := decide_eq_false c25;clear c25;obtain rfl := Option.some.inj H
                    go_wp2_with (first|((with_reducible refine gate_callee (f := 33) rfl ?_);refine goesL_ (some 49) rfl rfl Try.func33 (by kernel_rfl) rfl #[.agg #[.int .i64 a0_0, .slice A0_1 l0_1.length c0_1, .slice A0_2 l0_2.length c0_2]] rfl mA ?_;(with_reducible refine (textpatch_End.calls a0_0 _ _ l0_1 _ _ l0_2 t110 _ ?side1 ?side2 ?side3 ?side4 A24.out).mono ?_);(case side1 => exact cBe HR0_1);(case side2 => exact HC0_1.out);(case side3 => exact cBe HR0_2);(case side4 => exact HC0_2.out);rintro e w27 ⟨rfl, hb⟩;refine ⟨_, rfl, ?_⟩;replace BK107 := lJ BK107 hb;replace HB := sBe HB hb;(try clear hb)))
                    go_ret
                    exact ⟨rW, eB⟩
          · rw [if_neg c12] at H;have c12b0 : (t109 == 0) = false := beq_eq_false_iff_ne.mpr c12;have c12b1 : (t109 != 0) = true := bne_iff_ne.mpr c12;replace H := Option.bind_eq_some_iff.mp H;obtain ⟨t111, A300, H⟩ := H;replace H : (some t111) = some r := H;have A30 := Aside0.mk A300;clear A300;obtain rfl := Option.some.inj H;have hcz31_0 : wc.cell? ⟨gb107, 0, none⟩ = some (.int .i64 a0_0) := (blk_cell BK107.out 0).trans rfl;have hcz31_1 : wc.cell? ⟨gb107, 1, none⟩ = some (.slice A0_1 l0_1.length c0_1) := (blk_cell BK107.out 1).trans rfl;have hcz31_2 : wc.cell? ⟨gb107, 2, none⟩ = some (.slice A0_2 l0_2.length c0_2) := (blk_cell BK107.out 2).trans rfl;have hfz31_0 := blk_frozen BK107.out 0;have hfz31_1 := blk_frozen BK107.out 1;have hfz31_2 := blk_frozen BK107.out 2
            go_wp2_with (first|((with_reducible refine gate_callee (f := 32) rfl ?_);refine goesL_ (some 17) rfl rfl Try.func32 (by kernel_rfl) rfl #[.slice A0_1 l0_1.length c0_1] rfl mA ?_;(with_reducible refine (lines_Code.calls _ _ l0_1 t108 _ ?side1 ?side2 A9.out).mono ?_);(case side1 => exact cBe HR0_1);(case side2 => exact HC0_1.out);rintro e w32 ⟨rfl, hb⟩;refine ⟨_, rfl, ?_⟩;replace BK107 := lJ BK107 hb;replace HB := sBe HB hb;(try clear hb);have hcz33_0 := hC BK107 0 (.int .i64 a0_0);have hcz33_1 := hC BK107 1 (.slice A0_1 l0_1.length c0_1);have hcz33_2 := hC BK107 2 (.slice A0_2 l0_2.length c0_2);have hfz33_0 := blk_frozen BK107.out 0;have hfz33_1 := blk_frozen BK107.out 1;have hfz33_2 := blk_frozen BK107.out 2)|((with_reducible refine gate_callee (f := 32) rfl ?_);refine goesL_ (some 25) rfl rfl Try.func32 (by kernel_rfl) rfl #[.slice A0_2 l0_2.length c0_2] rfl mA ?_;(with_reducible refine (lines_Code.calls _ _ l0_2 t109 _ ?side1 ?side2 A11.out).mono ?_);(case side1 => exact cBe HR0_2);(case side2 => exact HC0_2.out);rintro e w34 ⟨rfl, hb⟩;refine ⟨_, rfl, ?_⟩;replace BK107 := lJ BK107 hb;replace HB := sBe HB hb;(try clear hb);have hcz35_0 := hC BK107 0 (.int .i64 a0_0);have hcz35_1 := hC BK107 1 (.slice A0_1 l0_1.length c0_1);have hcz35_2 := hC BK107 2 (.slice A0_2 l0_2.length c0_2);have hfz35_0 := blk_frozen BK107.out 0;have hfz35_1 := blk_frozen BK107.out 1;have hfz35_2 := blk_frozen BK107.out 2)|((with_reducible refine gate_callee (f := 32) rfl ?_);refine goesL_ (some 29) rfl rfl Try.func32 (by kernel_rfl) rfl #[.slice A0_2 l0_2.length c0_2] rfl mA ?_;(with_reducible refine (lines_Code.calls _ _ l0_2 t111 _ ?side1 ?side2 A30.out).mono ?_);(case side1 => exact cBe HR0_2);(case side2 => exact HC0_2.out);rintro e w36 ⟨rfl, hb⟩;refine ⟨_, rfl, ?_⟩;replace BK107 := lJ BK107 hb;replace HB := sBe HB hb;(try clear hb)))
            go_ret
            exact ⟨rW, eB⟩
        · rw [if_neg c10] at H;have c10b0 : (t108 == 0) = false := beq_eq_false_iff_ne.mpr c10;have c10b1 : (t108 != 0) = true := bne_iff_ne.mpr c10;replace H := Option.bind_eq_some_iff.mp H;obtain ⟨t112, A370, H⟩ := H;replace H : (some t112) = some r := H;have A37 := Aside0.mk A370;clear A370;obtain rfl := Option.some.inj H;have hcz38_0 : wc.cell? ⟨gb107, 0, none⟩ = some (.int .i64 a0_0) := (blk_cell BK107.out 0).trans rfl;have hcz38_1 : wc.cell? ⟨gb107, 1, none⟩ = some (.slice A0_1 l0_1.length c0_1) := (blk_cell BK107.out 1).trans rfl;have hcz38_2 : wc.cell? ⟨gb107, 2, none⟩ = some (.slice A0_2 l0_2.length c0_2) := (blk_cell BK107.out 2).trans rfl;have hfz38_0 := blk_frozen BK107.out 0;have hfz38_1 := blk_frozen BK107.out 1;have hfz38_2 := blk_frozen BK107.out 2
          go_wp2_with (first|((with_reducible refine gate_callee (f := 32) rfl ?_);refine goesL_ (some 17) rfl rfl Try.func32 (by kernel_rfl) rfl #[.slice A0_1 l0_1.length c0_1] rfl mA ?_;(with_reducible refine (lines_Code.calls _ _ l0_1 t108 _ ?side1 ?side2 A9.out).mono ?_);(case side1 => exact cBe HR0_1);(case side2 => exact HC0_1.out);rintro e w39 ⟨rfl, hb⟩;refine ⟨_, rfl, ?_⟩;replace BK107 := lJ BK107 hb;replace HB := sBe HB hb;(try clear hb);have hcz40_0 := hC BK107 0 (.int .i64 a0_0);have hcz40_1 := hC BK107 1 (.slice A0_1 l0_1.length c0_1);have hcz40_2 := hC BK107 2 (.slice A0_2 l0_2.length c0_2);have hfz40_0 := blk_frozen BK107.out 0;have hfz40_1 := blk_frozen BK107.out 1;have hfz40_2 := blk_frozen BK107.out 2)|((with_reducible refine gate_callee (f := 32) rfl ?_);refine goesL_ (some 21) rfl rfl Try.func32 (by kernel_rfl) rfl #[.slice A0_1 l0_1.length c0_1] rfl mA ?_;(with_reducible refine (lines_Code.calls _ _ l0_1 t112 _ ?side1 ?side2 A37.out).mono ?_);(case side1 => exact cBe HR0_1);(case side2 => exact HC0_1.out);rintro e w41 ⟨rfl, hb⟩;refine ⟨_, rfl, ?_⟩;replace BK107 := lJ BK107 hb;replace HB := sBe HB hb;(try clear hb)))
          go_ret
          exact ⟨rW, eB⟩

/-! ### textpatch_hunkCode: function 43 -/
def textpatch_hunkCode.f (a0_0 : Int) (l0_1 : List ByteArray) (l0_2 : List ByteArray) (a1 : Int) : Option (Int) :=  some (hkCode (a0_0, l0_1, l0_2) a1)
theorem textpatch_hunkCode.calls (a0_0 : Int) (A0_1 : Option Addr) (c0_1 : Nat) (l0_1 : List ByteArray) (A0_2 : Option Addr) (c0_2 : Nat) (l0_2 : List ByteArray) (a1 : Int) (r : Int) (w : World) (hr0_1 : Kd.C Kd.string w A0_1 l0_1.length l0_1) (hc0_1 : l0_1.length ≤ c0_1) (hr0_2 : Kd.C Kd.string w A0_2 l0_2.length l0_2) (hc0_2 : l0_2.length ≤ c0_2) (h : textpatch_hunkCode.f a0_0 l0_1 l0_2 a1 = some r) :
    Calls Try.prog 43 #[.agg #[.int .i64 a0_0, .slice A0_1 l0_1.length c0_1, .slice A0_2 l0_2.length c0_2], .int .i64 a1] w fun e w' => e = .returned (.int .i64 r) ∧ Below w.heap.size w w' := by
  have h' : textpatch_hunkCode_0.f 2 a0_0 l0_1 l0_2 a1 = some r := by
    rw [← h]
    have hj : ∀ b : Bool, 0 ≤ a0_0 → a0_0 ≤ 120 → l0_1.length ≤ 120 → textpatch_hunkCode_0.j1 1 b a0_0 l0_1 l0_2 = some (if b = true then 5 else if 120 < hkEnd (a0_0, l0_1, l0_2) then 3 else 0) := by
      intro b h0 h1 h2
      simp only [textpatch_hunkCode_0.j1, textpatch_End.f, Option.bind_some]
      rw [w64 (by omega) (by omega)]
      unfold hkEnd
      by_cases c : b = true
      · rw [if_pos c, if_pos c]
      · rw [if_neg c, if_neg c]
        by_cases d : 120 < a0_0 + (l0_1.length : Int)
        · rw [if_pos (by omega), if_pos d]
        · rw [if_neg (by omega), if_neg d]
    unfold textpatch_hunkCode_0.f textpatch_hunkCode.f hkCode
    simp only [textpatch_hunkCode_0.j0, lines_Code.f, Option.bind_some]
    by_cases c1 : a0_0 < 0
    · rw [if_pos c1, if_pos trivial, if_pos (.inl c1)]
    · rw [if_neg c1]
      by_cases c1' : a0_0 > 120
      · rw [decide_eq_true c1', if_pos rfl, if_pos (.inr c1')]
      · rw [decide_eq_false c1', if_neg (by decide), if_neg (show ¬ (a0_0 < 0 ∨ 120 < a0_0) by omega)]
        by_cases c2 : (linesFault l0_1).1 = 0
        · rw [if_pos c2, if_pos c2]
          by_cases c3 : (linesFault l0_2).1 = 0
          · rw [if_pos c3, if_pos c3]
            have hl := (linesFault_ok.1 (linesFault_zero c2)).1
            rw [hj _ (by omega) (by omega) hl, hj _ (by omega) (by omega) hl]
            by_cases e1 : l0_1 = []
            · by_cases e2 : l0_2 = []
              · rw [if_pos (by rw [e1]; rfl), if_pos (by rw [e2]; rfl), if_pos rfl, if_pos (.inl ⟨e1, e2⟩)]
              · have : ¬ ((l0_2.length : Int) = 0) := fun h => e2 (List.eq_nil_of_length_eq_zero (by omega))
                rw [if_pos (by rw [e1]; rfl), if_neg this]
                by_cases e3 : a0_0 < a1
                · rw [decide_eq_true e3, if_pos rfl, if_pos (.inr e3)]
                · rw [decide_eq_false e3, if_neg (by decide), if_neg (show ¬ ((l0_1 = [] ∧ l0_2 = []) ∨ a0_0 < a1) from fun h => h.elim (fun h => e2 h.2) e3)]
            · have : ¬ ((l0_1.length : Int) = 0) := fun h => e1 (List.eq_nil_of_length_eq_zero (by omega))
              rw [if_neg this]
              by_cases e3 : a0_0 < a1
              · rw [decide_eq_true e3, if_pos rfl, if_pos (.inr e3)]
              · rw [decide_eq_false e3, if_neg (by decide), if_neg (show ¬ ((l0_1 = [] ∧ l0_2 = []) ∨ a0_0 < a1) from fun h => h.elim (fun h => e1 h.1) e3)]
          · rw [if_neg c3, if_neg c3]
        · rw [if_neg c2, if_neg c2]
  exact (textpatch_hunkCode_0.calls (2) a0_0 A0_1 c0_1 l0_1 A0_2 c0_2 l0_2 a1 r w hr0_1 hc0_1 hr0_2 hc0_2 (h'))


/-! ### textpatch_Validate_0: function 19 -/
def textpatch_Validate_0.l0 : Nat → Int → List (S47) → Int → Int → Option (Int × Int)
  | 0, _, _, _, _ => none
  | k + 1, x3, x13, x14, x15 => if x15 < x14 then (if 0 ≤ x15 then (if x15 < (x13.length : Int) then ((textpatch_hunkCode.f ((rd_T47 x13 x15).f0) ((rd_T47 x13 x15).f1) ((rd_T47 x13 x15).f2) x3).bind fun t117 => (if t117 = 0 then ((textpatch_End.f ((rd_T47 x13 x15).f0) ((rd_T47 x13 x15).f1) ((rd_T47 x13 x15).f2)).bind fun t118 => (textpatch_Validate_0.l0 k (wrap64 (t118 + 1)) x13 x14 (wrap64 (x15 + 1)))) else (some (t117, x15)))) else (none)) else (none)) else (some (0, 0))
def textpatch_Validate_0.f (k : Nat) (l0_0 : List (S47)) : Option (Int × Int) := if (l0_0.length : Int) > 130 then (some (2, (-1))) else (textpatch_Validate_0.l0 k 0 l0_0 (l0_0.length : Int) 0)
theorem textpatch_Validate_0.mono_l : ∀ k, (∀ y0 y1 y2 y3, LeO (textpatch_Validate_0.l0 k y0 y1 y2 y3) (textpatch_Validate_0.l0 (k + 1) y0 y1 y2 y3))
  | 0 => fun _ _ _ _ r h => by simp [textpatch_Validate_0.l0] at h
  | k + 1 => by
    have ih0 := textpatch_Validate_0.mono_l k
    · intro y0 y1 y2 y3
      unfold textpatch_Validate_0.l0
      repeat' first
      | (with_reducible exact ih0 _ _ _ _)
      | (with_reducible exact LeO.refl _)
      | (with_reducible exact LeO.none _)
      | (with_reducible refine LeO.ite ?_ ?_)
      | (with_reducible refine LeO.bind ?_ (fun _ => ?_))
      | exact ih0 _ _ _ _
      | exact LeO.none _
      | refine LeO.ite ?_ ?_
      | refine LeO.bind ?_ (fun _ => ?_)
theorem textpatch_Validate_0.mono : ∀ a0 k, LeO (textpatch_Validate_0.f k a0) (textpatch_Validate_0.f (k + 1) a0) := by
  intro a0 k
  have ih0 := textpatch_Validate_0.mono_l k
  unfold textpatch_Validate_0.f
  repeat' first
      | (with_reducible exact ih0 _ _ _ _)
      | (with_reducible exact LeO.refl _)
      | (with_reducible exact LeO.none _)
      | (with_reducible refine LeO.ite ?_ ?_)
      | (with_reducible refine LeO.bind ?_ (fun _ => ?_))
      | exact ih0 _ _ _ _
      | exact LeO.none _
      | refine LeO.ite ?_ ?_
      | refine LeO.bind ?_ (fun _ => ?_)
set_option maxHeartbeats 8000000 in
set_option maxRecDepth 100000 in
theorem textpatch_Validate_0.calls (k : Nat) (A0_0 : Option Addr) (c0_0 : Nat) (l0_0 : List (S47)) (r1 : Int) (r2 : Int) (w : World) (hr0_0 : Kd.C k47 w A0_0 l0_0.length l0_0) (hc0_0 : l0_0.length ≤ c0_0) (h : textpatch_Validate_0.f k l0_0 = some (r1, r2)) :
    Calls Try.prog 19 #[.agg #[.slice A0_0 l0_0.length c0_0]] w fun e w' => e = .returned (.agg #[.int .i64 r1, .int .i64 r2]) ∧ Below w.heap.size w w' := by
  have hu24 := Try.underlying24;have hu27 := Try.underlying27;have hu47 := Try.underlying47;have HR0_0 := Aside0.mk hr0_0;have HC0_0 := Aside0.mk hc0_0;clear hr0_0 hc0_0;have HB := Aside0.mk (Below.refl w.heap.size w);have H : (if (l0_0.length : Int) > 130 then (some (2, (-1))) else (textpatch_Validate_0.l0 k 0 l0_0 (l0_0.length : Int) 0)) = some (r1, r2) := h;clear h
  by_cases c2 : (l0_0.length : Int) > 130
  · rw [if_pos c2] at H;have c2b0 : decide (130 < (l0_0.length : Int)) = true := decide_eq_true c2;have c2b1 : decide (130 < l0_0.length) = true := decide_eq_true (by omega);clear c2;simp only [Option.some.injEq, Prod.mk.injEq] at H;obtain ⟨rfl, rfl⟩ := H
    go_enter Try.func19, Try.ntmps19
    go_wp2_with (first|((with_reducible refine gate_dst (N := 1) rfl ?_);refine bE 1 #[.slice A0_0 l0_0.length c0_0] 24 ?_;intro gb113 hg w3 hbox hb;have BK113 := Aside0.mk (hbox);have GW113 := gBe HB hg;have GE113 := gBe HB hg;replace HB := sBe HB hb;clear hb hbox hg)|((with_reducible refine gate_dst (N := 2) rfl ?_);refine bE 2 #[.int .i64 0, .int .i64 0] 27 ?_;intro gb114 hg w4 hbox hb;have BK114 := Aside0.mk (hbox);have GW114 := gBe HB hg;have GE114 := gBe HB hg;have NB113_114 := nL BK113 hg;have NB114_113 := nG BK113 hg;replace BK113 := lJ BK113 hb;replace HB := sBe HB hb;clear hb hbox hg;have hnb5 := NB113_114.out;have hnc5 := NB114_113.out;have hcz6_0 := hC BK113 0 (.slice A0_0 l0_0.length c0_0);have hfz6_0 := blk_frozen BK113.out 0;have hcz7_0 := hC BK114 0 (.int .i64 0);have hcz7_1 := hC BK114 1 (.int .i64 0);have hfz7_0 := blk_frozen BK114.out 0;have hfz7_1 := blk_frozen BK114.out 1))
    refine bodyPost_ret (results_cell_row rfl _ _ gb114 27 #[.int .i64 2, .int .i64 (-1)] (0, 0) _ rfl kK Try.underlying27 rfl (by kernel_rfl)) rfl ?_;exact ⟨rW, eB⟩
  · rw [if_neg c2] at H;have c2b0 : decide (130 < (l0_0.length : Int)) = false := decide_eq_false c2;have c2b1 : decide (130 < l0_0.length) = false := decide_eq_false (by omega);clear c2;have H' := Aside0.mk H;clear H
    go_enter Try.func19, Try.ntmps19
    go_wp2_with (first|((with_reducible refine gate_dst (N := 1) rfl ?_);refine bE 1 #[.slice A0_0 l0_0.length c0_0] 24 ?_;intro gb113 hg w8 hbox hb;have BK113 := Aside0.mk (hbox);have GW113 := gBe HB hg;have GE113 := gBe HB hg;replace HB := sBe HB hb;clear hb hbox hg)|((with_reducible refine gate_dst (N := 2) rfl ?_);refine bE 2 #[.int .i64 0, .int .i64 0] 27 ?_;intro gb114 hg w9 hbox hb;have BK114 := Aside0.mk (hbox);have GW114 := gBe HB hg;have GE114 := gBe HB hg;have NB113_114 := nL BK113 hg;have NB114_113 := nG BK113 hg;replace BK113 := lJ BK113 hb;replace HB := sBe HB hb;clear hb hbox hg;have hnb10 := NB113_114.out;have hnc10 := NB114_113.out;have hcz11_0 := hC BK113 0 (.slice A0_0 l0_0.length c0_0);have hfz11_0 := blk_frozen BK113.out 0))
    go_loopg [3, 15] k (fun kq v3 v15 w' => ∃ (x3_1 : Int) (x15_1 : Int) (x115000_1 : Int) (x115001_1 : Int), v3 = .int .i64 x3_1 ∧ v15 = .int .i64 x15_1 ∧ Aside0 (textpatch_Validate_0.l0 kq x3_1 l0_0 (l0_0.length : Int) x15_1 = some (r1, r2)) ∧ Aside0 (kq ≤ k) ∧ Bk w' gb113 24 #[(.slice A0_0 l0_0.length c0_0)] ∧ Bk w' gb114 27 #[.int .i64 x115000_1, .int .i64 x115001_1] ∧ Aside0 (Below w.heap.size w w'))
    case atStart => exact ⟨(0), (0), (0), (0), (by first|rfl|(simp only [i64_w, i32_w];done)|(simp only [i64_w, i32_w];rfl)|(simp;done)|(simp [*];done)), (by first|rfl|(simp only [i64_w, i32_w];done)|(simp only [i64_w, i32_w];rfl)|(simp;done)|(simp [*];done)), H', ⟨Nat.le_refl _⟩, ⟨kK⟩, ⟨kK⟩, ⟨eB⟩⟩
    case round =>
      clear H'
      try clear c1
      try clear c2
      try clear c2b0
      try clear c2b1
      try clear p2
      try clear c5
      try clear c10
      try clear hcz11_0
      try clear hcz6_0
      try clear hcz7_0
      try clear hcz7_1
      try clear hfz11_0
      try clear hfz6_0
      try clear hfz7_0
      try clear hfz7_1
      obtain ⟨x3_1, x15_1, x115000_1, x115001_1, rfl, rfl, HA, HK1, BK113, BK114, HB⟩ := hrel
      cases gk with
      | zero => exact absurd HA.out (by simp [textpatch_Validate_0.l0])
      | succ k1 =>
        have H := HA.out;clear HA;simp only [textpatch_Validate_0.l0] at H
        by_cases c12 : x15_1 < (l0_0.length : Int)
        · rw [if_pos c12] at H;have c12b0 : decide (x15_1 < (l0_0.length : Int)) = true := decide_eq_true c12;clear c12
          by_cases c13 : 0 ≤ x15_1
          · rw [if_pos c13] at H;have c13b0 : decide (0 ≤ x15_1) = true := decide_eq_true c13;clear c13
            by_cases c14 : x15_1 < (l0_0.length : Int)
            · rw [if_pos c14] at H;have c14b0 : decide (x15_1 < (l0_0.length : Int)) = true := decide_eq_true c14;clear c14;replace H := Option.bind_eq_some_iff.mp H;obtain ⟨t117, A150, H⟩ := H;replace H : (if t117 = 0 then ((textpatch_End.f ((rd_T47 l0_0 x15_1).f0) ((rd_T47 l0_0 x15_1).f1) ((rd_T47 l0_0 x15_1).f2)).bind fun t118 => (textpatch_Validate_0.l0 k1 (wrap64 (t118 + 1)) l0_0 (l0_0.length : Int) (wrap64 (x15_1 + 1)))) else (some (t117, x15_1))) = some (r1, r2) := H;have A15 := Aside0.mk A150;clear A150;have p115 : 0 ≤ (x15_1 : Int) := dA;have q115 : x15_1 < (l0_0.length : Int) := dA;obtain ⟨ad115, A115_1, c115_1, A115_2, c115_2, e115, hx115_0, hx115_1, hx115_2, hl115_1, hi115_1, hl115_2, hi115_2⟩ := at_T47 HR0_0.out x15_1 p115 q115
              cases e115
              replace hx115_0 := (hX HB hx115_0:);replace hx115_1 := (hX HB hx115_1:);replace hx115_2 := (hX HB hx115_2:);have HR115_1 := Aside0.mk hi115_1;have HC115_1 := Aside0.mk hl115_1;clear hi115_1 hl115_1;have HR115_2 := Aside0.mk hi115_2;have HC115_2 := Aside0.mk hl115_2
              by_cases c16 : t117 = 0
              · rw [if_pos c16] at H;have c16b0 : (t117 == 0) = true := beq_iff_eq.mpr c16;have c16b1 : (t117 != 0) = false := bne_eq_false_iff_eq.mpr c16;clear c16;replace H := Option.bind_eq_some_iff.mp H;obtain ⟨t118, A170, H⟩ := H;replace H : (textpatch_Validate_0.l0 k1 (wrap64 (t118 + 1)) l0_0 (l0_0.length : Int) (wrap64 (x15_1 + 1))) = some (r1, r2) := H;have A17 := Aside0.mk A170;clear A170;have H' := Aside0.mk H;clear H;clear hi115_2 hl115_2;replace p115 := eq_true p115;replace q115 := eq_true q115
                go_wp2_with (first|((with_reducible refine gate_dst (N := 5) rfl ?_);refine bE 5 #[.int .i64 0, .slice none 0 0, .slice none 0 0] 47 ?_;intro gb116 hg w18 hbox hb;have BK116 := Aside0.mk (hbox);have GW116 := gBe HB hg;have GE116 := gBe HB hg;have NB113_116 := nL BK113 hg;have NB116_113 := nG BK113 hg;have NB114_116 := nL BK114 hg;have NB116_114 := nG BK114 hg;replace BK113 := lJ BK113 hb;replace BK114 := lJ BK114 hb;replace HB := sBe HB hb;clear hb hbox hg;have hnb19 := NB116_113.out;have hnc19 := NB113_116.out;have hnb20 := NB116_114.out;have hnc20 := NB114_116.out;have hcz21_0 := hC BK116 0 (.int .i64 0);have hcz21_1 := hC BK116 1 (.slice none 0 0);have hcz21_2 := hC BK116 2 (.slice none 0 0);have hfz21_0 := blk_frozen BK116.out 0;have hfz21_1 := blk_frozen BK116.out 1;have hfz21_2 := blk_frozen BK116.out 2)|((with_reducible refine gate_callee (f := 43) rfl ?_);refine goesL_ (some 22) rfl rfl Try.func43 (by kernel_rfl) rfl #[.agg #[.int .i64 ((rd_T47 l0_0 x15_1).f0), .slice A115_1 ((rd_T47 l0_0 x15_1).f1).length c115_1, .slice A115_2 ((rd_T47 l0_0 x15_1).f2).length c115_2], .int .i64 x3_1] rfl mA ?_;(with_reducible refine (textpatch_hunkCode.calls ((rd_T47 l0_0 x15_1).f0) _ _ ((rd_T47 l0_0 x15_1).f1) _ _ ((rd_T47 l0_0 x15_1).f2) x3_1 t117 _ ?side1 ?side2 ?side3 ?side4 A15.out).mono ?_);(case side1 => exact Kd.C_below HR115_1.out eB);(case side2 => exact HC115_1.out);(case side3 => exact Kd.C_below HR115_2.out eB);(case side4 => exact HC115_2.out);rintro e w22 ⟨rfl, hb⟩;refine ⟨_, rfl, ?_⟩;replace BK113 := lJ BK113 hb;replace BK114 := lJ BK114 hb;replace BK116 := lK gb116 47 #[.int .i64 ((rd_T47 l0_0 x15_1).f0), .slice A115_1 ((rd_T47 l0_0 x15_1).f1).length c115_1, .slice A115_2 ((rd_T47 l0_0 x15_1).f2).length c115_2] hb;replace HB := sBe HB hb;(try clear hb);have hcz23_0 := hC BK116 0 (.int .i64 ((rd_T47 l0_0 x15_1).f0));have hcz23_1 := hC BK116 1 (.slice A115_1 ((rd_T47 l0_0 x15_1).f1).length c115_1);have hcz23_2 := hC BK116 2 (.slice A115_2 ((rd_T47 l0_0 x15_1).f2).length c115_2);have hfz23_0 := blk_frozen BK116.out 0;have hfz23_1 := blk_frozen BK116.out 1;have hfz23_2 := blk_frozen BK116.out 2)|((with_reducible refine gate_callee (f := 33) rfl ?_);refine goesL_ (some 29) rfl rfl Try.func33 (by kernel_rfl) rfl #[.agg #[.int .i64 ((rd_T47 l0_0 x15_1).f0), .slice A115_1 ((rd_T47 l0_0 x15_1).f1).length c115_1, .slice A115_2 ((rd_T47 l0_0 x15_1).f2).length c115_2]] rfl mA ?_;(with_reducible refine (textpatch_End.calls ((rd_T47 l0_0 x15_1).f0) _ _ ((rd_T47 l0_0 x15_1).f1) _ _ ((rd_T47 l0_0 x15_1).f2) t118 _ ?side1 ?side2 ?side3 ?side4 A17.out).mono ?_);(case side1 => exact cBe HR115_1);(case side2 => exact HC115_1.out);(case side3 => exact cBe HR115_2);(case side4 => exact HC115_2.out);rintro e w24 ⟨rfl, hb⟩;refine ⟨_, rfl, ?_⟩;replace BK113 := lJ BK113 hb;replace BK114 := lJ BK114 hb;replace BK116 := lJ BK116 hb;replace HB := sBe HB hb;(try clear hb)))
                go_roundg k1
                case measure => have := HK1.out;omega
                case rel => exact ⟨(wrap64 (t118 + 1)), (wrap64 (x15_1 + 1)), (x115000_1), (x115001_1), (by first|rfl|(simp only [i64_w, i32_w];done)|(simp only [i64_w, i32_w];rfl)|(simp;done)|(simp [*];done)), (by first|rfl|(simp only [i64_w, i32_w];done)|(simp only [i64_w, i32_w];rfl)|(simp;done)|(simp [*];done)), H', ⟨by have := HK1.out;omega⟩, ⟨kK⟩, ⟨kK⟩, ⟨eB⟩⟩
              · rw [if_neg c16] at H;have c16b0 : (t117 == 0) = false := beq_eq_false_iff_ne.mpr c16;have c16b1 : (t117 != 0) = true := bne_iff_ne.mpr c16;simp only [Option.some.injEq, Prod.mk.injEq] at H;obtain ⟨rfl, rfl⟩ := H;clear hi115_2 hl115_2;replace p115 := eq_true p115;replace q115 := eq_true q115
                go_wp2_with (first|((with_reducible refine gate_dst (N := 5) rfl ?_);refine bE 5 #[.int .i64 0, .slice none 0 0, .slice none 0 0] 47 ?_;intro gb116 hg w25 hbox hb;have BK116 := Aside0.mk (hbox);have GW116 := gBe HB hg;have GE116 := gBe HB hg;have NB113_116 := nL BK113 hg;have NB116_113 := nG BK113 hg;have NB114_116 := nL BK114 hg;have NB116_114 := nG BK114 hg;replace BK113 := lJ BK113 hb;replace BK114 := lJ BK114 hb;replace HB := sBe HB hb;clear hb hbox hg;have hnb26 := NB116_113.out;have hnc26 := NB113_116.out;have hnb27 := NB116_114.out;have hnc27 := NB114_116.out;have hcz28_0 := hC BK116 0 (.int .i64 0);have hcz28_1 := hC BK116 1 (.slice none 0 0);have hcz28_2 := hC BK116 2 (.slice none 0 0);have hfz28_0 := blk_frozen BK116.out 0;have hfz28_1 := blk_frozen BK116.out 1;have hfz28_2 := blk_frozen BK116.out 2)|((with_reducible refine gate_callee (f := 43) rfl ?_);refine goesL_ (some 22) rfl rfl Try.func43 (by kernel_rfl) rfl #[.agg #[.int .i64 ((rd_T47 l0_0 x15_1).f0), .slice A115_1 ((rd_T47 l0_0 x15_1).f1).length c115_1, .slice A115_2 ((rd_T47 l0_0 x15_1).f2).length c115_2], .int .i64 x3_1] rfl mA ?_;(with_reducible refine (textpatch_hunkCode.calls ((rd_T47 l0_0 x15_1).f0) _ _ ((rd_T47 l0_0 x15_1).f1) _ _ ((rd_T47 l0_0 x15_1).f2) x3_1 t117 _ ?side1 ?side2 ?side3 ?side4 A15.out).mono ?_);(case side1 => exact Kd.C_below HR115_1.out eB);(case side2 => exact HC115_1.out);(case side3 => exact Kd.C_below HR115_2.out eB);(case side4 => exact HC115_2.out);rintro e w29 ⟨rfl, hb⟩;refine ⟨_, rfl, ?_⟩;replace BK113 := lJ BK113 hb;replace BK114 := lJ BK114 hb;replace BK116 := lK gb116 47 #[.int .i64 ((rd_T47 l0_0 x15_1).f0), .slice A115_1 ((rd_T47 l0_0 x15_1).f1).length c115_1, .slice A115_2 ((rd_T47 l0_0 x15_1).f2).length c115_2] hb;replace HB := sBe HB hb;(try clear hb);have hnb30 := NB114_113.out;have hnc30 := NB113_114.out;have hcz31_0 := hC BK114 0 (.int .i64 x115000_1);have hcz31_1 := hC BK114 1 (.int .i64 x115001_1);have hfz31_0 := blk_frozen BK114.out 0;have hfz31_1 := blk_frozen BK114.out 1))
                refine bodyPost_ret (results_cell_row rfl _ _ gb114 27 #[.int .i64 t117, .int .i64 x15_1] (0, 0) _ rfl kK Try.underlying27 rfl (by kernel_rfl)) rfl ?_;exact ⟨rW, eB⟩
            · rw [if_neg c14] at H;exact absurd H (by simp)
          · rw [if_neg c13] at H;exact absurd H (by simp)
        · rw [if_neg c12] at H;have c12b0 : decide (x15_1 < (l0_0.length : Int)) = false := decide_eq_false c12;clear c12;simp only [Option.some.injEq, Prod.mk.injEq] at H;obtain ⟨rfl, rfl⟩ := H;have hnb32 := NB114_113.out;have hnc32 := NB113_114.out;have hcz33_0 : wr.cell? ⟨gb114, 0, none⟩ = some (.int .i64 x115000_1) := (blk_cell BK114.out 0).trans rfl;have hcz33_1 : wr.cell? ⟨gb114, 1, none⟩ = some (.int .i64 x115001_1) := (blk_cell BK114.out 1).trans rfl;have hfz33_0 := blk_frozen BK114.out 0;have hfz33_1 := blk_frozen BK114.out 1
          go_wp2
          refine bodyPost_ret (results_cell_row rfl _ _ gb114 27 #[.int .i64 0, .int .i64 0] (0, 0) _ rfl kK Try.underlying27 rfl (by kernel_rfl)) rfl ?_;exact ⟨rW, eB⟩

/-! ### textpatch_Validate: function 19 -/
theorem textpatch_Validate_0.loop (xs : List S47) (hl : xs.length ≤ 130) (d : Nat) : ∀ (k i : Nat) (low : Int), i ≤ xs.length → xs.length - i = d → d < k → textpatch_Validate_0.l0 k low xs (xs.length : Int) (i : Int) = some (pvGo ((xs.drop i).map (fun x_ : S47 => ((x_.f0, x_.f1, x_.f2) : Hk))) low (i : Int)) := by
  induction d with
  | zero =>
    intro k i low hi hd hk
    obtain ⟨k, rfl⟩ : ∃ m, k = m + 1 := ⟨k - 1, by omega⟩
    simp only [textpatch_Validate_0.l0]
    rw [if_neg (by omega), List.drop_eq_nil_of_le (by omega)]
    rfl
  | succ d ih =>
    intro k i low hi hd hk
    obtain ⟨k, rfl⟩ : ∃ m, k = m + 1 := ⟨k - 1, by omega⟩
    have hdr : xs.drop i = rd_T47 xs (i : Int) :: xs.drop (i + 1) := rdOf_drop z47 xs i (by omega)
    rw [hdr, List.map_cons]
    simp only [textpatch_Validate_0.l0, textpatch_hunkCode.f, textpatch_End.f, Option.bind_some]
    generalize rd_T47 xs (i : Int) = h
    rw [if_pos (by omega), if_pos (by omega), if_pos (by omega), pvGo]
    by_cases c : hkCode (h.f0, h.f1, h.f2) low = 0
    · have hok := (hkCode_zero _ _).1 c
      have h1 := hok.1
      have h2 := hok.2.1
      have h3 := (linesFault_ok.1 hok.2.2.2.1).1
      simp only at h1 h2 h3
      rw [if_pos c, if_pos c, w64 (n := h.f0 + (h.f1.length : Int)) (by omega) (by omega), w64 (n := h.f0 + (h.f1.length : Int) + 1) (by omega) (by omega), w64 (n := (i : Int) + 1) (by omega) (by omega)]
      have := ih k (i + 1) (hkEnd (h.f0, h.f1, h.f2) + 1) (by omega) (by omega) (by omega)
      rw [show ((i + 1 : Nat) : Int) = (i : Int) + 1 by omega] at this
      exact this
    · rw [if_neg c, if_neg c]
def textpatch_Validate.f (l0_0 : List (S47)) : Option (Int × Int) :=  some (patchFault (l0_0.map (fun x_ : S47 => ((x_.f0, x_.f1, x_.f2) : Hk))))
theorem textpatch_Validate.calls (A0_0 : Option Addr) (c0_0 : Nat) (l0_0 : List (S47)) (r1 : Int) (r2 : Int) (w : World) (hr0_0 : Kd.C k47 w A0_0 l0_0.length l0_0) (hc0_0 : l0_0.length ≤ c0_0) (h : textpatch_Validate.f l0_0 = some (r1, r2)) :
    Calls Try.prog 19 #[.agg #[.slice A0_0 l0_0.length c0_0]] w fun e w' => e = .returned (.agg #[.int .i64 r1, .int .i64 r2]) ∧ Below w.heap.size w w' := by
  have h' : textpatch_Validate_0.f 131 l0_0 = some (r1, r2) := by
    rw [← h]
    unfold textpatch_Validate_0.f textpatch_Validate.f patchFault
    rw [List.length_map]
    by_cases c : 130 < l0_0.length
    · rw [if_pos (by omega), if_pos c]
    · rw [if_neg (by omega), if_neg c]
      exact textpatch_Validate_0.loop l0_0 (by omega) l0_0.length 131 0 0 (by omega) (by omega) (by omega)
  exact (textpatch_Validate_0.calls (131) A0_0 c0_0 l0_0 r1 r2 w hr0_0 hc0_0 (h'))


/-! ### slices_Clone_string_string: function 39 -/
def slices_Clone_string_string.f (l0 : List ByteArray) : Option (List ByteArray) :=  if l0.length ≤ 8796093022208 then some l0 else none
theorem slices_Clone_string_string.calls (A0 : Option Addr) (c0 : Nat) (l0 : List ByteArray) (r : List ByteArray) (w : World) (hr0 : Kd.C Kd.string w A0 l0.length l0) (hc0 : l0.length ≤ c0) (h : slices_Clone_string_string.f l0 = some r) :
    Calls Try.prog 39 #[.slice A0 l0.length c0] w fun e w' => ∃ v0_ : Value, e = .returned (v0_) ∧ Kd.R Kd.string 9 w' w.heap.size (fun _ => True) v0_ r ∧ Below w.heap.size w w' := by
  replace h : (if l0.length ≤ 8796093022208 then some l0 else none) = some r := h
  by_cases hb : l0.length ≤ 8796093022208
  · rw [if_pos hb] at h
    obtain rfl := Option.some.inj h
    cases A0 with
    | none =>
      have hl : l0 = [] := by
        have := (Kd.reads_of_C (enc := Value.string) (d := ByteArray.empty) (h1 := fun _ => rfl) hr0).2.2
        cases l0 with
        | nil => rfl
        | cons a r => obtain ⟨ad, e, _⟩ := this (by simp); cases e
      subst hl
      refine (Try.slices_Clone_string_nil 0 c0 w).mono fun e w' ⟨he, hw⟩ => ⟨_, he, Kd.R_nil _ _ _ _ _, by rw [hw]; exact Below.refl _ _⟩
    | some a =>
      by_cases h0 : l0.length = 0
      · have hl : l0 = [] := List.eq_nil_of_length_eq_zero h0
        subst hl
        refine (Try.slices_Clone_string_zero a c0 w).mono fun e w' ⟨v', he, ho, _, hbel⟩ => ⟨v', he, Kd.R_of_own (enc := Value.string) (h1 := fun _ => rfl) (xs := []) ho (fun _ _ => trivial), hbel⟩
      · obtain ⟨ad, e, hc⟩ := (Kd.reads_of_C (enc := Value.string) (d := ByteArray.empty) (h1 := fun _ => rfl) hr0).2.2 (by omega)
        obtain rfl := Option.some.inj e
        obtain ⟨b, off, f⟩ := a
        obtain rfl : f = none := by
          have := hc 0 (by omega)
          cases f with
          | none => rfl
          | some s =>
            unfold Addr.add World.cell? at this
            rw [if_pos rfl] at this
            simp at this
            split at this <;> simp at this
        refine (Try.slices_Clone_string b off l0.length c0 l0 w (Nat.le_refl _) (by omega) ?_).mono fun e w' ⟨v', he, ho, _, hbel⟩ => ⟨v', he, Kd.R_of_own (enc := Value.string) (h1 := fun _ => rfl) (xs := l0) (by rw [List.take_length] at ho; exact ho) (fun _ _ => trivial), hbel⟩
        intro j hj
        have := hc j hj
        have e : (⟨b, off, none⟩ : Addr).add j = ⟨b, off + j, none⟩ := by unfold Addr.add; split <;> simp_all
        rw [e] at this
        exact this
  · rw [if_neg hb] at h; cases h


/-! ### textpatch_Fit: function 40 -/
def textpatch_Fit.f (l0_0 : List (S47)) : Option ((List (S47)) × Int × Int) := (textpatch_Validate.f l0_0).bind fun bt122 => (if (!(bt122.1 == 0) || (!(bt122.2 == 0))) = true then (some (([] : List (S47)), 10, (-1))) else (some (l0_0, 0, 0)))
set_option maxHeartbeats 8000000 in
set_option maxRecDepth 100000 in
theorem textpatch_Fit.calls (P0_0_ : Nat → Prop) (A0_0 : Option Addr) (c0_0 : Nat) (l0_0 : List (S47)) (r1 : List (S47)) (r2 : Int) (r3 : Int) (w : World) (hs0_0 : Kd.V k47 47 w w.heap.size (fun k_ => P0_0_ k_) (.slice A0_0 l0_0.length c0_0) l0_0) (h : textpatch_Fit.f l0_0 = some (r1, r2, r3)) :
    Calls Try.prog 40 #[.agg #[.slice A0_0 l0_0.length c0_0]] w fun e w' => ∃ v0_ : Value, e = .returned (.tuple #[.agg #[v0_], .agg #[.int .i64 r2, .int .i64 r3]]) ∧ Kd.V k47 47 w' w.heap.size (fun k_ => (P0_0_ k_ ∨ w.heap.size ≤ k_)) v0_ r1 ∧ Below w.heap.size w w' := by
  have hu24 := Try.underlying24;have hu27 := Try.underlying27;have HO0_0 := Aside0.mk (show Kd.V k47 47 w w.heap.size (fun k_ => (P0_0_ k_ ∨ w.heap.size ≤ k_)) (.slice A0_0 l0_0.length c0_0) l0_0 from Kd.V_mono hs0_0 (fun k_ hk => .inl hk));have HB := Aside0.mk (Below.refl w.heap.size w);have H : ((textpatch_Validate.f l0_0).bind fun bt122 => (if (!(bt122.1 == 0) || (!(bt122.2 == 0))) = true then (some (([] : List (S47)), 10, (-1))) else (some (l0_0, 0, 0)))) = some (r1, r2, r3) := h;clear h;replace H := Option.bind_eq_some_iff.mp H;obtain ⟨⟨t122, t123⟩, A20, H⟩ := H;replace H : (if (!(t122 == 0) || (!(t123 == 0))) = true then (some (([] : List (S47)), 10, (-1))) else (some (l0_0, 0, 0))) = some (r1, r2, r3) := H;have A2 := Aside0.mk A20;clear A20
  by_cases c3 : (!(t122 == 0) || (!(t123 == 0))) = true
  · rw [if_pos c3] at H;have c3b0 : (!(t122 == 0) || (!(t123 == 0))) = true := c3;clear c3;simp only [Option.some.injEq, Prod.mk.injEq] at H;obtain ⟨rfl, rfl, rfl⟩ := H
    go_enter Try.func40, Try.ntmps40
    go_wp2_with (first|((with_reducible refine gate_dst (N := 1) rfl ?_);refine bE 1 #[.slice A0_0 l0_0.length c0_0] 24 ?_;intro gb119 hg w4 hbox hb;have BK119 := Aside0.mk (hbox);have GW119 := gBe HB hg;have GE119 := gBe HB hg;replace HO0_0 := vE HO0_0 gb119 hg hb;replace HB := sBe HB hb;clear hb hbox hg)|((with_reducible refine gate_dst (N := 2) rfl ?_);refine bE 2 #[.slice none 0 0] 24 ?_;intro gb120 hg w5 hbox hb;have BK120 := Aside0.mk (hbox);have GW120 := gBe HB hg;have GE120 := gBe HB hg;have NB119_120 := nL BK119 hg;have NB120_119 := nG BK119 hg;replace HO0_0 := vE HO0_0 gb120 hg hb;replace BK119 := lJ BK119 hb;replace HB := sBe HB hb;clear hb hbox hg)|((with_reducible refine gate_dst (N := 3) rfl ?_);refine bE 3 #[.int .i64 0, .int .i64 0] 27 ?_;intro gb121 hg w6 hbox hb;have BK121 := Aside0.mk (hbox);have GW121 := gBe HB hg;have GE121 := gBe HB hg;have NB119_121 := nL BK119 hg;have NB121_119 := nG BK119 hg;have NB120_121 := nL BK120 hg;have NB121_120 := nG BK120 hg;replace HO0_0 := vE HO0_0 gb121 hg hb;replace BK119 := lJ BK119 hb;replace BK120 := lJ BK120 hb;replace HB := sBe HB hb;clear hb hbox hg;have hnb7 := NB119_120.out;have hnc7 := NB120_119.out;have hnb8 := NB119_121.out;have hnc8 := NB121_119.out;have hcz9_0 := hC BK119 0 (.slice A0_0 l0_0.length c0_0);have hfz9_0 := blk_frozen BK119.out 0)|((with_reducible refine gate_callee (f := 19) rfl ?_);refine goesL_ (some 5) rfl rfl Try.func19 (by kernel_rfl) rfl #[.agg #[.slice A0_0 l0_0.length c0_0]] rfl mA ?_;(with_reducible refine (textpatch_Validate.calls _ _ l0_0 t122 t123 _ ?side1 ?side2 A2.out).mono ?_);(case side1 => repeat (first|exact (Kd.V_reads' HO0_0.out).2.2|(with_reducible refine Kd.C_alloc ?_ _)|(with_reducible refine Kd.C_drewN ?_ _)|(with_reducible refine Kd.C_drew ?_)));(case side2 => exact (Kd.V_reads' HO0_0.out).2.1);rintro e w10 ⟨rfl, hb⟩;refine ⟨_, rfl, ?_⟩;replace HO0_0 := Aside0.mk (Kd.V_below (vK HO0_0) hb);replace BK119 := lJ BK119 hb;replace BK120 := lJ BK120 hb;replace BK121 := lJ BK121 hb;replace HB := sBe HB hb;(try clear hb);have hnb11 := NB120_121.out;have hnc11 := NB121_120.out;have hcz12_0 := hC BK120 0 (.slice none 0 0);have hfz12_0 := blk_frozen BK120.out 0;have hcz13_0 := hC BK121 0 (.int .i64 0);have hcz13_1 := hC BK121 1 (.int .i64 0);have hfz13_0 := blk_frozen BK121.out 0;have hfz13_1 := blk_frozen BK121.out 1))
    refine bodyPost_ret (results_cc rfl _ _ gb120 gb121 24 27 #[.slice none 0 0] #[.int .i64 10, .int .i64 (-1)] (0, 0) (0, 0) _ _ rfl kK Try.underlying24 rfl (by kernel_rfl) rfl kK Try.underlying27 rfl (by kernel_rfl)) rfl ?_;exact ⟨_, rW, Kd.V_mono (Kd.S_V (Kd.S_nil _ _ _ 0 _)) (fun k_ hk => by first|exact ⟨(.inr (hk.1)), hk.2⟩|exact (.inr (hk))), eB⟩
  · rw [if_neg c3] at H;have c3b0 : (!(t122 == 0) || (!(t123 == 0))) = false := (by simpa using c3);clear c3;simp only [Option.some.injEq, Prod.mk.injEq] at H;obtain ⟨rfl, rfl, rfl⟩ := H
    go_enter Try.func40, Try.ntmps40
    go_wp2_with (first|((with_reducible refine gate_dst (N := 1) rfl ?_);refine bE 1 #[.slice A0_0 l0_0.length c0_0] 24 ?_;intro gb119 hg w14 hbox hb;have BK119 := Aside0.mk (hbox);have GW119 := gBe HB hg;have GE119 := gBe HB hg;replace HO0_0 := vE HO0_0 gb119 hg hb;replace HB := sBe HB hb;clear hb hbox hg)|((with_reducible refine gate_dst (N := 2) rfl ?_);refine bE 2 #[.slice none 0 0] 24 ?_;intro gb120 hg w15 hbox hb;have BK120 := Aside0.mk (hbox);have GW120 := gBe HB hg;have GE120 := gBe HB hg;have NB119_120 := nL BK119 hg;have NB120_119 := nG BK119 hg;replace HO0_0 := vE HO0_0 gb120 hg hb;replace BK119 := lJ BK119 hb;replace HB := sBe HB hb;clear hb hbox hg)|((with_reducible refine gate_dst (N := 3) rfl ?_);refine bE 3 #[.int .i64 0, .int .i64 0] 27 ?_;intro gb121 hg w16 hbox hb;have BK121 := Aside0.mk (hbox);have GW121 := gBe HB hg;have GE121 := gBe HB hg;have NB119_121 := nL BK119 hg;have NB121_119 := nG BK119 hg;have NB120_121 := nL BK120 hg;have NB121_120 := nG BK120 hg;replace HO0_0 := vE HO0_0 gb121 hg hb;replace BK119 := lJ BK119 hb;replace BK120 := lJ BK120 hb;replace HB := sBe HB hb;clear hb hbox hg;have hnb17 := NB119_120.out;have hnc17 := NB120_119.out;have hnb18 := NB119_121.out;have hnc18 := NB121_119.out;have hcz19_0 := hC BK119 0 (.slice A0_0 l0_0.length c0_0);have hfz19_0 := blk_frozen BK119.out 0)|((with_reducible refine gate_callee (f := 19) rfl ?_);refine goesL_ (some 5) rfl rfl Try.func19 (by kernel_rfl) rfl #[.agg #[.slice A0_0 l0_0.length c0_0]] rfl mA ?_;(with_reducible refine (textpatch_Validate.calls _ _ l0_0 t122 t123 _ ?side1 ?side2 A2.out).mono ?_);(case side1 => repeat (first|exact (Kd.V_reads' HO0_0.out).2.2|(with_reducible refine Kd.C_alloc ?_ _)|(with_reducible refine Kd.C_drewN ?_ _)|(with_reducible refine Kd.C_drew ?_)));(case side2 => exact (Kd.V_reads' HO0_0.out).2.1);rintro e w20 ⟨rfl, hb⟩;refine ⟨_, rfl, ?_⟩;replace HO0_0 := Aside0.mk (Kd.V_below (vK HO0_0) hb);replace BK119 := lJ BK119 hb;replace BK120 := lJ BK120 hb;replace BK121 := lJ BK121 hb;replace HB := sBe HB hb;(try clear hb);have hcz21_0 := hC BK119 0 (.slice A0_0 l0_0.length c0_0);have hfz21_0 := blk_frozen BK119.out 0;have hnb22 := NB120_121.out;have hnc22 := NB121_120.out;have hcz23_0 := hC BK120 0 (.slice none 0 0);have hfz23_0 := blk_frozen BK120.out 0;have hcz24_0 := hC BK121 0 (.int .i64 0);have hcz24_1 := hC BK121 1 (.int .i64 0);have hfz24_0 := blk_frozen BK121.out 0;have hfz24_1 := blk_frozen BK121.out 1))
    refine bodyPost_ret (results_cc rfl _ _ gb120 gb121 24 27 #[.slice A0_0 l0_0.length c0_0] #[.int .i64 0, .int .i64 0] (0, 0) (0, 0) _ _ rfl kK Try.underlying24 rfl (by kernel_rfl) rfl kK Try.underlying27 rfl (by kernel_rfl)) rfl ?_;exact ⟨_, rW, by (with_reducible repeat (first|apply Kd.V_alloc|apply Kd.V_drewN|apply Kd.V_drew));exact Kd.V_mono (Kd.V_far (p := ⟨gb121, 1, none⟩) (Kd.V_far (p := ⟨gb121, 0, none⟩) (Kd.V_far (p := ⟨gb120, 0, none⟩) (Kd.V_mono (Kd.V_mono HO0_0.out (fun k_ hk => (⟨hk, hk.1.2⟩ : _ ∧ k_ ≠ gb120))) (fun k_ hk => (⟨hk, hk.1.2⟩ : _ ∧ k_ ≠ gb121))) (fun _ hk => hk.1.2) (.slice A0_0 l0_0.length c0_0)) (fun _ hk => hk.2) (.int .i64 0)) (fun _ hk => hk.2) (.int .i64 0)) (fun _ hk => hk.1.1.1.1.1), eB⟩

/-! ### textpatch_Invert: function 17 -/
def textpatch_Invert.l0 : Nat → Int → List (S47) → Int → Int → List (S47) → Option ((List (S47)) × Int × Int)
  | 0, _, _, _, _, _ => none
  | k + 1, x6, x17, x18, x19, x131000 => if x19 < x18 then (if 0 ≤ x19 then (if x19 < (x17.length : Int) then ((slices_Clone_string_string.f ((rd_T47 x17 x19).f2)).bind fun t133 => ((slices_Clone_string_string.f ((rd_T47 x17 x19).f1)).bind fun t136 => (if x131000.length < 2513169434916 then (textpatch_Invert.l0 k (wrap64 (x6 + (wrap64 ((((rd_T47 x17 x19).f2).length : Int) - (((rd_T47 x17 x19).f1).length : Int))))) x17 x18 (wrap64 (x19 + 1)) (x131000 ++ [(⟨wrap64 (((rd_T47 x17 x19).f0) + x6), t133, t136⟩ : S47)])) else (none)))) else (none)) else (none)) else ((textpatch_Fit.f x131000).bind fun bt142 => (some (bt142.1, bt142.2.1, bt142.2.2)))
def textpatch_Invert.f (k : Nat) (l0_0 : List (S47)) : Option ((List (S47)) × Int × Int) := (textpatch_Validate.f l0_0).bind fun bt127 => (if (!(bt127.1 == 0) || (!(bt127.2 == 0))) = true then (some (([] : List (S47)), bt127.1, bt127.2)) else (textpatch_Invert.l0 k 0 l0_0 (l0_0.length : Int) 0 ([] : List (S47))))
theorem textpatch_Invert.mono_l : ∀ k, (∀ y0 y1 y2 y3 y4, LeO (textpatch_Invert.l0 k y0 y1 y2 y3 y4) (textpatch_Invert.l0 (k + 1) y0 y1 y2 y3 y4))
  | 0 => fun _ _ _ _ _ r h => by simp [textpatch_Invert.l0] at h
  | k + 1 => by
    have ih0 := textpatch_Invert.mono_l k
    · intro y0 y1 y2 y3 y4
      unfold textpatch_Invert.l0
      repeat' first
      | (with_reducible exact ih0 _ _ _ _ _)
      | (with_reducible exact LeO.refl _)
      | (with_reducible exact LeO.none _)
      | (with_reducible refine LeO.ite ?_ ?_)
      | (with_reducible refine LeO.bind ?_ (fun _ => ?_))
      | exact ih0 _ _ _ _ _
      | exact LeO.none _
      | refine LeO.ite ?_ ?_
      | refine LeO.bind ?_ (fun _ => ?_)
theorem textpatch_Invert.mono : ∀ a0 k, LeO (textpatch_Invert.f k a0) (textpatch_Invert.f (k + 1) a0) := by
  intro a0 k
  have ih0 := textpatch_Invert.mono_l k
  unfold textpatch_Invert.f
  repeat' first
      | (with_reducible exact ih0 _ _ _ _ _)
      | (with_reducible exact LeO.refl _)
      | (with_reducible exact LeO.none _)
      | (with_reducible refine LeO.ite ?_ ?_)
      | (with_reducible refine LeO.bind ?_ (fun _ => ?_))
      | exact ih0 _ _ _ _ _
      | exact LeO.none _
      | refine LeO.ite ?_ ?_
      | refine LeO.bind ?_ (fun _ => ?_)
def textpatch_Invert.T9 : Bool × List (List Nat × List Nat) := (true, [([], []), ([0], [0]), ([], []), ([2], [2]), ([], []), ([3, 4], [3, 4]), ([], []), ([6], [6]), ([7], [7]), ([], []), ([9], [9]), ([10, 8], [10]), ([5, 8, 11], [5, 8, 11]), ([12], [12]), ([1, 13, 11], [1, 13]), ([0, 1, 2, 3, 4, 5, 6, 7, 8, 9, 10, 11, 12, 13, 14], []), ([15, 14, 14, 0, 1, 2, 3, 4, 5, 6, 7, 8, 9, 10, 11, 12, 13, 14], [14, 15])])
def textpatch_Invert.B9 : List Nat := [0, 1, 0, 4, 0, 28, 0, 64, 192, 0, 512, 1984, 4092, 8188, 16383, 32767, 65535]
theorem textpatch_Invert.tab9 : rtab .any (opsOf Try.f17 9) = textpatch_Invert.T9 := by kernel_rfl
theorem textpatch_Invert.bits9 : waitsOk textpatch_Invert.T9.2 textpatch_Invert.B9 = true := by kernel_rfl
set_option maxHeartbeats 8000000 in
set_option maxRecDepth 100000 in
theorem textpatch_Invert.calls (k : Nat) (A0_0 : Option Addr) (c0_0 : Nat) (l0_0 : List (S47)) (r1 : List (S47)) (r2 : Int) (r3 : Int) (w : World) (hr0_0 : Kd.C k47 w A0_0 l0_0.length l0_0) (hc0_0 : l0_0.length ≤ c0_0) (h : textpatch_Invert.f k l0_0 = some (r1, r2, r3)) :
    Calls Try.prog 17 #[.agg #[.slice A0_0 l0_0.length c0_0]] w fun e w' => ∃ v0_ : Value, e = .returned (.tuple #[.agg #[v0_], .agg #[.int .i64 r2, .int .i64 r3]]) ∧ Kd.V k47 47 w' w.heap.size (fun k_ => (w.heap.size ≤ k_)) v0_ r1 ∧ Below w.heap.size w w' := by
  have hu24 := Try.underlying24;have hu27 := Try.underlying27;have hu47 := Try.underlying47;have HR0_0 := Aside0.mk hr0_0;have HC0_0 := Aside0.mk hc0_0;clear hr0_0 hc0_0;have HB := Aside0.mk (Below.refl w.heap.size w);have H : ((textpatch_Validate.f l0_0).bind fun bt127 => (if (!(bt127.1 == 0) || (!(bt127.2 == 0))) = true then (some (([] : List (S47)), bt127.1, bt127.2)) else (textpatch_Invert.l0 k 0 l0_0 (l0_0.length : Int) 0 ([] : List (S47))))) = some (r1, r2, r3) := h;clear h;replace H := Option.bind_eq_some_iff.mp H;obtain ⟨⟨t127, t128⟩, A20, H⟩ := H;replace H : (if (!(t127 == 0) || (!(t128 == 0))) = true then (some (([] : List (S47)), t127, t128)) else (textpatch_Invert.l0 k 0 l0_0 (l0_0.length : Int) 0 ([] : List (S47)))) = some (r1, r2, r3) := H;have A2 := Aside0.mk A20;clear A20
  by_cases c3 : (!(t127 == 0) || (!(t128 == 0))) = true
  · rw [if_pos c3] at H;have c3b0 : (!(t127 == 0) || (!(t128 == 0))) = true := c3;clear c3;simp only [Option.some.injEq, Prod.mk.injEq] at H;obtain ⟨rfl, rfl, rfl⟩ := H
    go_enter Try.func17, Try.ntmps17
    try go_wp2_with (first|((with_reducible refine gate_dst (N := 1) rfl ?_);refine bE 1 #[.slice A0_0 l0_0.length c0_0] 24 ?_;intro gb124 hg w4 hbox hb;have BK124 := Aside0.mk (hbox);have GW124 := gBe HB hg;have GE124 := gBe HB hg;replace HB := sBe HB hb;clear hb hbox hg)|((with_reducible refine gate_dst (N := 2) rfl ?_);refine bE 2 #[.slice none 0 0] 24 ?_;intro gb125 hg w5 hbox hb;have BK125 := Aside0.mk (hbox);have GW125 := gBe HB hg;have GE125 := gBe HB hg;have NB124_125 := nL BK124 hg;have NB125_124 := nG BK124 hg;replace BK124 := lJ BK124 hb;replace HB := sBe HB hb;clear hb hbox hg)|((with_reducible refine gate_dst (N := 3) rfl ?_);refine bE 3 #[.int .i64 0, .int .i64 0] 27 ?_;intro gb126 hg w6 hbox hb;have BK126 := Aside0.mk (hbox);have GW126 := gBe HB hg;have GE126 := gBe HB hg;have NB124_126 := nL BK124 hg;have NB126_124 := nG BK124 hg;have NB125_126 := nL BK125 hg;have NB126_125 := nG BK125 hg;replace BK124 := lJ BK124 hb;replace BK125 := lJ BK125 hb;replace HB := sBe HB hb;clear hb hbox hg;have hnb7 := NB124_125.out;have hnc7 := NB125_124.out;have hnb8 := NB124_126.out;have hnc8 := NB126_124.out;have hcz9_0 := hC BK124 0 (.slice A0_0 l0_0.length c0_0);have hfz9_0 := blk_frozen BK124.out 0)|((with_reducible refine gate_callee (f := 19) rfl ?_);refine goesL_ (some 10) rfl rfl Try.func19 (by kernel_rfl) rfl #[.agg #[.slice A0_0 l0_0.length c0_0]] rfl mA ?_;(with_reducible refine (textpatch_Validate.calls _ _ l0_0 t127 t128 _ ?side1 ?side2 A2.out).mono ?_);(case side1 => exact cBe HR0_0);(case side2 => exact HC0_0.out);rintro e w10 ⟨rfl, hb⟩;refine ⟨_, rfl, ?_⟩;replace BK124 := lJ BK124 hb;replace BK125 := lJ BK125 hb;replace BK126 := lJ BK126 hb;replace HB := sBe HB hb;(try clear hb))|((with_reducible refine gate_dst (N := 4) rfl ?_);refine bE 4 #[.int .i64 0, .int .i64 0] 27 ?_;intro gb129 hg w11 hbox hb;have BK129 := Aside0.mk (hbox);have GW129 := gBe HB hg;have GE129 := gBe HB hg;have NB124_129 := nL BK124 hg;have NB129_124 := nG BK124 hg;have NB125_129 := nL BK125 hg;have NB129_125 := nG BK125 hg;have NB126_129 := nL BK126 hg;have NB129_126 := nG BK126 hg;replace BK124 := lJ BK124 hb;replace BK125 := lJ BK125 hb;replace BK126 := lJ BK126 hb;replace HB := sBe HB hb;clear hb hbox hg;have hnb12 := NB129_124.out;have hnc12 := NB124_129.out;have hnb13 := NB129_125.out;have hnc13 := NB125_129.out;have hnb14 := NB129_126.out;have hnc14 := NB126_129.out;have hcz15_0 := hC BK129 0 (.int .i64 0);have hcz15_1 := hC BK129 1 (.int .i64 0);have hfz15_0 := blk_frozen BK129.out 0;have hfz15_1 := blk_frozen BK129.out 1))
    obtain ⟨w16, hW_⟩ : ∃ w_, w_ = ((w11.setCell ⟨gb129, 0, none⟩ (.int .i64 t127)).setCell ⟨gb129, 1, none⟩ (.int .i64 t128)) := ⟨_, rfl⟩;have n0_ : Bk w16 gb124 24 #[.slice A0_0 l0_0.length c0_0] := ⟨by rw [hW_];exact kK⟩;have n1_ : Bk w16 gb125 24 #[.slice none 0 0] := ⟨by rw [hW_];exact kK⟩;have n2_ : Bk w16 gb126 27 #[.int .i64 0, .int .i64 0] := ⟨by rw [hW_];exact kK⟩;have n3_ : Bk w16 gb129 27 #[.int .i64 t127, .int .i64 t128] := ⟨by rw [hW_];exact kK⟩;have n4_ : Aside0 (Below w.heap.size w w16) := ⟨by rw [hW_];exact eB⟩;(try clear BK124);(try clear BK125);(try clear BK126);(try clear BK129);(try clear HB);(try rw [← hW_]);clear hW_;have BK124 := n0_;have BK125 := n1_;have BK126 := n2_;have BK129 := n3_;have HB := n4_;clear n0_ n1_ n2_ n3_ n4_;replace BK124 := Aside0.mk (blk_drew BK124.out);replace BK125 := Aside0.mk (blk_drew BK125.out);replace BK126 := Aside0.mk (blk_drew BK126.out);replace BK129 := Aside0.mk (blk_drew BK129.out);replace HB := Aside0.mk (below_drew1 HB.out);refine start_ (n := 4) (S := fun w' => w'.cell? ⟨gb129, 0, none⟩ = some (.int .i64 t127) ∧ w'.cell? ⟨gb129, 1, none⟩ = some (.int .i64 t128)) (ds := []) (mb 4 0) (by kernel_rfl) rfl (by kernel_rfl) ⟨(blk_cell BK129.out 0).trans rfl, (blk_cell BK129.out 1).trans rfl⟩ (fun hHeld => ?_);generalize w16.drew = w17 at BK124 BK125 BK126 BK129 HB hHeld ⊢;refine pB 0 14 (mb 4 1) rfl rfl ?_;refine tB 1 15 (mb 4 3) hHeld rfl rfl (by rintro w' ⟨s0, s1⟩;go_simp;with_reducible rfl) ?_;refine one_ (i := 2) (N := none) (mb 4 7) rfl rfl (by kernel_rfl) (by decide) (fun K hK => ?_);have hs18 : w17.cell? ⟨gb125, 0, none⟩ = some (.slice none 0 0) := (blk_cell BK125.out 0).trans rfl;have hfs18 := blk_frozen BK125.out 0;have := NB124_125.out;have := NB126_125.out;have := NB129_125.out;have := NB125_124.out;have := NB125_126.out;have := NB125_129.out;refine skip_ (w1 := ?_) (by rfl) rfl ?_ ?_;rotate_left
    · go_simp
      rfl
    refine hK.out _ _ ⟨((cell_far (p := ⟨gb125, _, none⟩) NB129_125.out _).trans (hHeld.1)), ((cell_far (p := ⟨gb125, _, none⟩) NB129_125.out _).trans (hHeld.2))⟩ (fun hHeld => ?_);clear hK K;refine one_ (i := 3) (N := none) (mb 4 15) rfl rfl (by kernel_rfl) (by decide) (fun K hK => ?_);have hs19 : w17.cell? ⟨gb126, 0, none⟩ = some (.int .i64 0) := (blk_cell BK126.out 0).trans rfl;have hfs19 := blk_frozen BK126.out 0;have := NB124_126.out;have := NB125_126.out;have := NB129_126.out;have := NB126_124.out;have := NB126_125.out;have := NB126_129.out;have hs20 : w17.cell? ⟨gb126, 1, none⟩ = some (.int .i64 0) := (blk_cell BK126.out 1).trans rfl;have hfs20 := blk_frozen BK126.out 1;have := NB124_126.out;have := NB125_126.out;have := NB129_126.out;have := NB126_124.out;have := NB126_125.out;have := NB126_129.out;refine skip_ (w1 := ?_) (by rfl) rfl ?_ ?_;rotate_left
    · go_simp
      rfl
    refine hK.out _ _ ⟨((cell_far (p := ⟨gb126, _, none⟩) NB129_126.out _).trans (((cell_far (p := ⟨gb126, _, none⟩) NB129_126.out _).trans (hHeld.1)))), ((cell_far (p := ⟨gb126, _, none⟩) NB129_126.out _).trans (((cell_far (p := ⟨gb126, _, none⟩) NB129_126.out _).trans (hHeld.2))))⟩ (fun hHeld => ?_);clear hK K;refine done_ (by kernel_rfl) ?_
    try go_wp2
    refine bodyPost_ret (results_cc rfl _ _ gb125 gb126 24 27 #[.slice none 0 0] #[.int .i64 t127, .int .i64 t128] (0, 0) (0, 0) _ _ rfl kK Try.underlying24 rfl (by kernel_rfl) rfl kK Try.underlying27 rfl (by kernel_rfl)) rfl ?_;exact ⟨_, rW, Kd.S_V (Kd.S_nil _ _ _ 0 _), eB⟩
  · rw [if_neg c3] at H;have c3b0 : (!(t127 == 0) || (!(t128 == 0))) = false := (by simpa using c3);clear c3;have H' := Aside0.mk H;clear H
    go_enter Try.func17, Try.ntmps17
    go_wp2_with (first|((with_reducible refine gate_dst (N := 1) rfl ?_);refine bE 1 #[.slice A0_0 l0_0.length c0_0] 24 ?_;intro gb124 hg w21 hbox hb;have BK124 := Aside0.mk (hbox);have GW124 := gBe HB hg;have GE124 := gBe HB hg;replace HB := sBe HB hb;clear hb hbox hg)|((with_reducible refine gate_dst (N := 2) rfl ?_);refine bE 2 #[.slice none 0 0] 24 ?_;intro gb125 hg w22 hbox hb;have BK125 := Aside0.mk (hbox);have GW125 := gBe HB hg;have GE125 := gBe HB hg;have NB124_125 := nL BK124 hg;have NB125_124 := nG BK124 hg;replace BK124 := lJ BK124 hb;replace HB := sBe HB hb;clear hb hbox hg)|((with_reducible refine gate_dst (N := 3) rfl ?_);refine bE 3 #[.int .i64 0, .int .i64 0] 27 ?_;intro gb126 hg w23 hbox hb;have BK126 := Aside0.mk (hbox);have GW126 := gBe HB hg;have GE126 := gBe HB hg;have NB124_126 := nL BK124 hg;have NB126_124 := nG BK124 hg;have NB125_126 := nL BK125 hg;have NB126_125 := nG BK125 hg;replace BK124 := lJ BK124 hb;replace BK125 := lJ BK125 hb;replace HB := sBe HB hb;clear hb hbox hg;have hnb24 := NB124_125.out;have hnc24 := NB125_124.out;have hnb25 := NB124_126.out;have hnc25 := NB126_124.out;have hcz26_0 := hC BK124 0 (.slice A0_0 l0_0.length c0_0);have hfz26_0 := blk_frozen BK124.out 0)|((with_reducible refine gate_callee (f := 19) rfl ?_);refine goesL_ (some 10) rfl rfl Try.func19 (by kernel_rfl) rfl #[.agg #[.slice A0_0 l0_0.length c0_0]] rfl mA ?_;(with_reducible refine (textpatch_Validate.calls _ _ l0_0 t127 t128 _ ?side1 ?side2 A2.out).mono ?_);(case side1 => exact cBe HR0_0);(case side2 => exact HC0_0.out);rintro e w27 ⟨rfl, hb⟩;refine ⟨_, rfl, ?_⟩;replace BK124 := lJ BK124 hb;replace BK125 := lJ BK125 hb;replace BK126 := lJ BK126 hb;replace HB := sBe HB hb;(try clear hb))|((with_reducible refine gate_dst (N := 4) rfl ?_);refine bE 4 #[.int .i64 0, .int .i64 0] 27 ?_;intro gb129 hg w28 hbox hb;have BK129 := Aside0.mk (hbox);have GW129 := gBe HB hg;have GE129 := gBe HB hg;have NB124_129 := nL BK124 hg;have NB129_124 := nG BK124 hg;have NB125_129 := nL BK125 hg;have NB129_125 := nG BK125 hg;have NB126_129 := nL BK126 hg;have NB129_126 := nG BK126 hg;replace BK124 := lJ BK124 hb;replace BK125 := lJ BK125 hb;replace BK126 := lJ BK126 hb;replace HB := sBe HB hb;clear hb hbox hg;have hnb29 := NB129_124.out;have hnc29 := NB124_129.out;have hnb30 := NB129_125.out;have hnc30 := NB125_129.out;have hnb31 := NB129_126.out;have hnc31 := NB126_129.out;have hcz32_0 := hC BK129 0 (.int .i64 0);have hcz32_1 := hC BK129 1 (.int .i64 0);have hfz32_0 := blk_frozen BK129.out 0;have hfz32_1 := blk_frozen BK129.out 1)|((with_reducible refine gate_dst (N := 5) rfl ?_);refine bE 5 #[.slice none 0 0] 24 ?_;intro gb130 hg w33 hbox hb;have BK130 := Aside0.mk (hbox);have GW130 := gBe HB hg;have GE130 := gBe HB hg;have NB124_130 := nL BK124 hg;have NB130_124 := nG BK124 hg;have NB125_130 := nL BK125 hg;have NB130_125 := nG BK125 hg;have NB126_130 := nL BK126 hg;have NB130_126 := nG BK126 hg;have NB129_130 := nLk gb129 27 #[.int .i64 t127, .int .i64 t128] hg;have NB130_129 := nGk gb129 27 #[.int .i64 t127, .int .i64 t128] hg;replace BK124 := lJ BK124 hb;replace BK125 := lJ BK125 hb;replace BK126 := lJ BK126 hb;replace BK129 := lK gb129 27 #[.int .i64 t127, .int .i64 t128] hb;replace HB := sBe HB hb;clear hb hbox hg;have hnb34 := NB124_130.out;have hnc34 := NB130_124.out;have hcz35_0 := hC BK124 0 (.slice A0_0 l0_0.length c0_0);have hfz35_0 := blk_frozen BK124.out 0))
    go_loopg [6, 19] k (fun kq v6 v19 w' => ∃ (x6_1 : Int) (x19_1 : Int) (x131000_1 : List (S47)) (u131000 : Value), v6 = .int .i64 x6_1 ∧ v19 = .int .i64 x19_1 ∧ Aside0 (textpatch_Invert.l0 kq x6_1 l0_0 (l0_0.length : Int) x19_1 x131000_1 = some (r1, r2, r3)) ∧ Aside0 (kq ≤ k) ∧ Aside0 (Kd.S k47 47 w' w.heap.size (fun k_ => (w.heap.size ≤ k_)) u131000 x131000_1) ∧ Bk w' gb124 24 #[(.slice A0_0 l0_0.length c0_0)] ∧ Bk w' gb125 24 #[(.slice none 0 0)] ∧ Bk w' gb126 27 #[.int .i64 0, .int .i64 0] ∧ Bk w' gb129 27 #[.int .i64 t127, .int .i64 t128] ∧ Bk w' gb130 24 #[u131000] ∧ Aside0 (Below w.heap.size w w'))
    case atStart => exact ⟨(0), (0), (([] : List (S47))), (.slice none 0 0), (by first|rfl|(simp only [i64_w, i32_w];done)|(simp only [i64_w, i32_w];rfl)|(simp;done)|(simp [*];done)), (by first|rfl|(simp only [i64_w, i32_w];done)|(simp only [i64_w, i32_w];rfl)|(simp;done)|(simp [*];done)), H', ⟨Nat.le_refl _⟩, ⟨by first|exact Kd.S_nil _ _ _ _ _|exact Kd.N_nil _ _ _ _ _|exact Kd.V_nil _ _ _ _ _|exact Kd.Q_nil _ _ _ _ _|exact Kd.R_nil _ _ _ _ _⟩, ⟨kK⟩, ⟨kK⟩, ⟨kK⟩, ⟨kK⟩, ⟨kK⟩, ⟨eB⟩⟩
    case round =>
      clear H'
      try clear c1
      try clear c2
      try clear p2
      try clear c3
      try clear c3b0
      try clear c7
      try clear c8
      try clear c12
      try clear c13
      try clear c14
      try clear c17
      try clear c19
      try clear c24
      try clear c25
      try clear c29
      try clear c30
      try clear c31
      try clear c34
      try clear hcz15_0
      try clear hcz15_1
      try clear hcz26_0
      try clear hcz32_0
      try clear hcz32_1
      try clear hcz35_0
      try clear hcz9_0
      try clear hfz15_0
      try clear hfz15_1
      try clear hfz26_0
      try clear hfz32_0
      try clear hfz32_1
      try clear hfz35_0
      try clear hfz9_0
      obtain ⟨x6_1, x19_1, x131000_1, u131000, rfl, rfl, HA, HK1, HO_131000, BK124, BK125, BK126, BK129, BK130, HB⟩ := hrel
      cases gk with
      | zero => exact absurd HA.out (by simp [textpatch_Invert.l0])
      | succ k1 =>
        have H := HA.out;clear HA;simp only [textpatch_Invert.l0] at H
        by_cases c36 : x19_1 < (l0_0.length : Int)
        · rw [if_pos c36] at H;have c36b0 : decide (x19_1 < (l0_0.length : Int)) = true := decide_eq_true c36;clear c36
          by_cases c37 : 0 ≤ x19_1
          · rw [if_pos c37] at H;have c37b0 : decide (0 ≤ x19_1) = true := decide_eq_true c37;clear c37
            by_cases c38 : x19_1 < (l0_0.length : Int)
            · rw [if_pos c38] at H;have c38b0 : decide (x19_1 < (l0_0.length : Int)) = true := decide_eq_true c38;clear c38;replace H := Option.bind_eq_some_iff.mp H;obtain ⟨t133, A390, H⟩ := H;replace H : ((slices_Clone_string_string.f ((rd_T47 l0_0 x19_1).f1)).bind fun t136 => (if x131000_1.length < 2513169434916 then (textpatch_Invert.l0 k1 (wrap64 (x6_1 + (wrap64 ((((rd_T47 l0_0 x19_1).f2).length : Int) - (((rd_T47 l0_0 x19_1).f1).length : Int))))) l0_0 (l0_0.length : Int) (wrap64 (x19_1 + 1)) (x131000_1 ++ [(⟨wrap64 (((rd_T47 l0_0 x19_1).f0) + x6_1), t133, t136⟩ : S47)])) else (none))) = some (r1, r2, r3) := H;have A39 := Aside0.mk A390;clear A390;replace H := Option.bind_eq_some_iff.mp H;obtain ⟨t136, A400, H⟩ := H;replace H : (if x131000_1.length < 2513169434916 then (textpatch_Invert.l0 k1 (wrap64 (x6_1 + (wrap64 ((((rd_T47 l0_0 x19_1).f2).length : Int) - (((rd_T47 l0_0 x19_1).f1).length : Int))))) l0_0 (l0_0.length : Int) (wrap64 (x19_1 + 1)) (x131000_1 ++ [(⟨wrap64 (((rd_T47 l0_0 x19_1).f0) + x6_1), t133, t136⟩ : S47)])) else (none)) = some (r1, r2, r3) := H;have A40 := Aside0.mk A400;clear A400
              by_cases c41 : x131000_1.length < 2513169434916
              · rw [if_pos c41] at H;have LMc41 := Aside0.mk c41;clear c41;obtain ⟨y139, hy139⟩ : ∃ y_ : List (S47), y_ = (x131000_1 ++ [(⟨wrap64 (((rd_T47 l0_0 x19_1).f0) + x6_1), t133, t136⟩ : S47)]) := ⟨_, rfl⟩;replace H : (textpatch_Invert.l0 k1 (wrap64 (x6_1 + (wrap64 ((((rd_T47 l0_0 x19_1).f2).length : Int) - (((rd_T47 l0_0 x19_1).f1).length : Int))))) l0_0 (l0_0.length : Int) (wrap64 (x19_1 + 1)) y139) = some (r1, r2, r3) := (by first|(rw [hy139];with_reducible exact H)|(have H2_ := (Option.bind_some _ _).symm.trans H;rw [hy139];with_reducible exact H2_)|(have H2_ := (Option.bind_some _ _).symm.trans H;with_reducible exact H2_)|with_reducible exact H|(rw [hy139];exact H)|exact H);have Ny139 := Aside0.mk hy139;clear hy139;have H' := Aside0.mk H;clear H;have p131 : 0 ≤ (x19_1 : Int) := dA;have q131 : x19_1 < (l0_0.length : Int) := dA;obtain ⟨ad131, A131_1, c131_1, A131_2, c131_2, e131, hx131_0, hx131_1, hx131_2, hl131_1, hi131_1, hl131_2, hi131_2⟩ := at_T47 HR0_0.out x19_1 p131 q131
                cases e131
                replace hx131_0 := (hX HB hx131_0:);replace hx131_1 := (hX HB hx131_1:);replace hx131_2 := (hX HB hx131_2:);have HR131_1 := Aside0.mk hi131_1;have HC131_1 := Aside0.mk hl131_1;clear hi131_1 hl131_1;have HR131_2 := Aside0.mk hi131_2;have HC131_2 := Aside0.mk hl131_2;clear hi131_2 hl131_2;replace p131 := eq_true p131;replace q131 := eq_true q131
                try go_wp2_with (first|((with_reducible refine gate_dst (N := 8) rfl ?_);refine bE 8 #[.int .i64 0, .slice none 0 0, .slice none 0 0] 47 ?_;intro gb132 hg w42 hbox hb;have BK132 := Aside0.mk (hbox);have GW132 := gBe HB hg;have GE132 := gBe HB hg;have NB124_132 := nL BK124 hg;have NB132_124 := nG BK124 hg;have NB125_132 := nL BK125 hg;have NB132_125 := nG BK125 hg;have NB126_132 := nL BK126 hg;have NB132_126 := nG BK126 hg;have NB129_132 := nL BK129 hg;have NB132_129 := nG BK129 hg;have NB130_132 := nL BK130 hg;have NB132_130 := nG BK130 hg;replace HO_131000 := Aside0.mk (Kd.S_below (Kd.S_elderB (sK HO_131000) gb132 (Nat.le_of_eq hg.symm)) hb);replace BK124 := lJ BK124 hb;replace BK125 := lJ BK125 hb;replace BK126 := lJ BK126 hb;replace BK129 := lJ BK129 hb;replace BK130 := lJ BK130 hb;replace HB := sBe HB hb;clear hb hbox hg;have hnb43 := NB132_124.out;have hnc43 := NB124_132.out;have hnb44 := NB132_125.out;have hnc44 := NB125_132.out;have hnb45 := NB132_126.out;have hnc45 := NB126_132.out;have hnb46 := NB132_129.out;have hnc46 := NB129_132.out;have hnb47 := NB132_130.out;have hnc47 := NB130_132.out;have hcz48_0 := hC BK132 0 (.int .i64 0);have hcz48_1 := hC BK132 1 (.slice none 0 0);have hcz48_2 := hC BK132 2 (.slice none 0 0);have hfz48_0 := blk_frozen BK132.out 0;have hfz48_1 := blk_frozen BK132.out 1;have hfz48_2 := blk_frozen BK132.out 2))
                obtain ⟨w49, hW_⟩ : ∃ w_, w_ = (((w42.setCell ⟨gb132, 0, none⟩ (.int .i64 ((rd_T47 l0_0 x19_1).f0))).setCell ⟨gb132, 1, none⟩ (.slice A131_1 ((rd_T47 l0_0 x19_1).f1).length c131_1)).setCell ⟨gb132, 2, none⟩ (.slice A131_2 ((rd_T47 l0_0 x19_1).f2).length c131_2)) := ⟨_, rfl⟩;have n0_ : Aside0 (Kd.S k47 47 w49 w.heap.size (fun k_ => (w.heap.size ≤ k_) ∧ k_ ≠ gb132) u131000 x131000_1) := ⟨by rw [hW_];(with_reducible repeat (first|apply Kd.S_alloc|apply Kd.S_drewN|apply Kd.S_drew));exact Kd.S_mono (Kd.S_far (p := ⟨gb132, 2, none⟩) (Kd.S_far (p := ⟨gb132, 1, none⟩) (Kd.S_far (p := ⟨gb132, 0, none⟩) (Kd.S_mono HO_131000.out (fun k_ hk => (⟨hk, hk.2⟩ : _ ∧ k_ ≠ gb132))) (fun _ hk => hk.2) (.int .i64 ((rd_T47 l0_0 x19_1).f0))) (fun _ hk => hk.2) (.slice A131_1 ((rd_T47 l0_0 x19_1).f1).length c131_1)) (fun _ hk => hk.2) (.slice A131_2 ((rd_T47 l0_0 x19_1).f2).length c131_2)) (fun _ hk => ⟨hk.1.1, hk.1.2⟩)⟩;have n1_ : Bk w49 gb124 24 #[.slice (some ad131) l0_0.length c0_0] := ⟨by rw [hW_];exact kK⟩;have n2_ : Bk w49 gb125 24 #[.slice none 0 0] := ⟨by rw [hW_];exact kK⟩;have n3_ : Bk w49 gb126 27 #[.int .i64 0, .int .i64 0] := ⟨by rw [hW_];exact kK⟩;have n4_ : Bk w49 gb129 27 #[.int .i64 t127, .int .i64 t128] := ⟨by rw [hW_];exact kK⟩;have n5_ : Bk w49 gb130 24 #[u131000] := ⟨by rw [hW_];exact kK⟩;have n6_ : Bk w49 gb132 47 #[.int .i64 ((rd_T47 l0_0 x19_1).f0), .slice A131_1 ((rd_T47 l0_0 x19_1).f1).length c131_1, .slice A131_2 ((rd_T47 l0_0 x19_1).f2).length c131_2] := ⟨by rw [hW_];exact kK⟩;have n7_ : Aside0 (Below w.heap.size w w49) := ⟨by rw [hW_];exact eB⟩;(try clear HO_131000);(try clear BK124);(try clear BK125);(try clear BK126);(try clear BK129);(try clear BK130);(try clear BK132);(try clear HB);(try rw [← hW_]);clear hW_;have HO_131000 := n0_;have BK124 := n1_;have BK125 := n2_;have BK126 := n3_;have BK129 := n4_;have BK130 := n5_;have BK132 := n6_;have HB := n7_;clear n0_ n1_ n2_ n3_ n4_ n5_ n6_ n7_;replace HO_131000 := Aside0.mk (Kd.S_drew HO_131000.out);replace BK124 := Aside0.mk (blk_drew BK124.out);replace BK125 := Aside0.mk (blk_drew BK125.out);replace BK126 := Aside0.mk (blk_drew BK126.out);replace BK129 := Aside0.mk (blk_drew BK129.out);replace BK130 := Aside0.mk (blk_drew BK130.out);replace BK132 := Aside0.mk (blk_drew BK132.out);replace HB := Aside0.mk (below_drew1 HB.out);refine start_ (n := 17) (S := fun w' => w'.cell? ⟨gb130, 0, none⟩ = some (u131000) ∧ w'.cell? ⟨gb132, 0, none⟩ = some (.int .i64 ((rd_T47 l0_0 x19_1).f0)) ∧ w'.cell? ⟨gb132, 1, none⟩ = some (.slice A131_1 ((rd_T47 l0_0 x19_1).f1).length c131_1) ∧ w'.cell? ⟨gb132, 2, none⟩ = some (.slice A131_2 ((rd_T47 l0_0 x19_1).f2).length c131_2)) (ds := [16]) (mb 17 0) (by kernel_rfl) rfl (by kernel_rfl) ⟨(blk_cell BK130.out 0).trans rfl, (blk_cell BK132.out 0).trans rfl, (blk_cell BK132.out 1).trans rfl, (blk_cell BK132.out 2).trans rfl⟩ (fun hHeld => ?_);refine with_tabW textpatch_Invert.tab9 textpatch_Invert.bits9 (fun HT_ HW_ => ?_);generalize w49.drew = w50 at HO_131000 BK124 BK125 BK126 BK129 BK130 BK132 HB hHeld ⊢;refine pA 0 23 (mb 17 1) HT_ rfl rfl ?_;refine pA 2 25 (mb 17 5) HT_ rfl rfl ?_;refine pA 4 27 (mb 17 21) HT_ rfl rfl ?_;refine pA 6 29 (mb 17 85) HT_ rfl rfl ?_;refine pA 9 32 (mb 17 597) HT_ rfl rfl ?_;refine tA 1 24 (mb 17 599) HT_ HW_ hHeld rfl rfl (by rintro w' ⟨s0, s1, s2, s3⟩;go_simp;with_reducible rfl) ?_;refine tA 3 26 (mb 17 607) HT_ HW_ hHeld rfl rfl (by rintro w' ⟨s0, s1, s2, s3⟩;go_simp;with_reducible rfl) ?_;refine pA 5 28 (mb 17 639) HT_ rfl rfl ?_;refine tA 7 30 (mb 17 767) HT_ HW_ hHeld rfl rfl (by rintro w' ⟨s0, s1, s2, s3⟩;go_simp;with_reducible rfl) ?_;refine tA 10 33 (mb 17 1791) HT_ HW_ hHeld rfl rfl (by rintro w' ⟨s0, s1, s2, s3⟩;go_simp;with_reducible rfl) ?_;refine one_ (i := 8) (N := some 31) (mb 17 2047) rfl rfl (one_of HT_.out (by kernel_rfl)) (by decide) (fun K hK => ?_);refine goes_ Try.func39 (by kernel_rfl) rfl #[.slice A131_2 ((rd_T47 l0_0 x19_1).f2).length c131_2] (by rfl) rfl rfl mA ?_
                with_reducible refine (slices_Clone_string_string.calls _ _ ((rd_T47 l0_0 x19_1).f2) t133 _ ?side1 ?side2 A39.out).mono ?_
                (case side1 => exact cBe HR131_2);(case side2 => exact HC131_2.out)
                rintro e w51 ⟨v134, rfl, ho0, hb⟩
                refine ⟨_, rfl, ?_⟩;have HO135 := Aside0.mk (Kd.R_lower (Kd.R_newM (M := fun k_ => (w.heap.size ≤ k_)) ho0 (below_size eB) (fun k_ h_ => h_)) (below_size eB));replace HO_131000 := Aside0.mk (Kd.S_elder' (sK HO_131000) (Kd.R_base ho0) hb);replace BK124 := lJ BK124 hb;replace BK125 := lJ BK125 hb;replace BK126 := lJ BK126 hb;replace BK129 := lJ BK129 hb;replace BK130 := lJ BK130 hb;replace BK132 := lJ BK132 hb;replace HB := sBe HB hb;(try clear hb ho0);refine hK.out _ _ ⟨(blk_cell BK130.out 0).trans rfl, (blk_cell BK132.out 0).trans rfl, (blk_cell BK132.out 1).trans rfl, (blk_cell BK132.out 2).trans rfl⟩ (fun hHeld => ?_);clear hK K;refine nmA (some 31) ?_;refine one_ (i := 11) (N := some 34) (mb 17 4095) rfl rfl (one_of HT_.out (by kernel_rfl)) (by decide) (fun K hK => ?_);refine goes_ Try.func39 (by kernel_rfl) rfl #[.slice A131_1 ((rd_T47 l0_0 x19_1).f1).length c131_1] (by rfl) rfl rfl mA ?_
                with_reducible refine (slices_Clone_string_string.calls _ _ ((rd_T47 l0_0 x19_1).f1) t136 _ ?side1 ?side2 A40.out).mono ?_
                (case side1 => exact cBe HR131_1);(case side2 => exact HC131_1.out)
                rintro e w52 ⟨v137, rfl, ho0, hb⟩
                refine ⟨_, rfl, ?_⟩;have HO138 := Aside0.mk (Kd.R_lower (Kd.R_new' (Kd.R_newM (M := fun k_ => (w.heap.size ≤ k_)) ho0 (below_size eB) (fun k_ h_ => h_)) (Kd.R_lt (rK HO135))) (below_size eB));replace HO_131000 := Aside0.mk (Kd.S_elder' (sK HO_131000) (Kd.R_base ho0) hb);replace HO135 := Aside0.mk (Kd.R_elder' (rK HO135) (Kd.R_base ho0) hb);replace BK124 := lJ BK124 hb;replace BK125 := lJ BK125 hb;replace BK126 := lJ BK126 hb;replace BK129 := lJ BK129 hb;replace BK130 := lJ BK130 hb;replace BK132 := lJ BK132 hb;replace HB := sBe HB hb;(try clear hb ho0);obtain ⟨Ao53, co53, eo53⟩ := Kd.R_slice HO138.out
                (first|subst eo53|(injection eo53 with f1_ f2_ f3_;have f4_ := f1_.symm;have f5_ := f3_.symm;clear f1_ f2_ f3_;subst f4_;subst f5_))
                obtain ⟨Ao54, co54, eo54⟩ := Kd.R_slice HO135.out
                (first|subst eo54|(injection eo54 with f1_ f2_ f3_;have f4_ := f1_.symm;have f5_ := f3_.symm;clear f1_ f2_ f3_;subst f4_;subst f5_))
                refine hK.out _ _ ⟨(blk_cell BK130.out 0).trans rfl, (blk_cell BK132.out 0).trans rfl, (blk_cell BK132.out 1).trans rfl, (blk_cell BK132.out 2).trans rfl⟩ (fun hHeld => ?_);clear hK K;refine nmA (some 34) ?_;refine pA 12 35 (mb 17 8191) HT_ rfl rfl ?_;refine one_ (i := 13) (N := some 36) (mb 17 16383) rfl rfl (one_of HT_.out (by kernel_rfl)) (by decide) (fun K hK => ?_);refine value_ (w1 := ?_) (v := ?_) (by rfl) rfl ?_ ?_;rotate_left 2
                · go_simp
                  constructor
                  · rfl
                  · rfl
                refine hK.out _ _ ⟨(blk_cell (blk_alloc BK130.out _) 0).trans rfl, (blk_cell (blk_alloc BK132.out _) 0).trans rfl, (blk_cell (blk_alloc BK132.out _) 1).trans rfl, (blk_cell (blk_alloc BK132.out _) 2).trans rfl⟩ (fun hHeld => ?_);clear hK K;refine nmA (some 36) ?_;refine one_ (i := 14) (N := some 37) (mb 17 32767) rfl rfl (one_of HT_.out (by kernel_rfl)) (by decide) (fun K hK => ?_);refine Kd.S_append_step k47 (w0 := w) w.heap.size (by rfl) (.tmp 24) (.tmp 36) 22 47 (.agg #[(.int .i64 0), (.slice none 0 0), (.slice none 0 0)]) 56 rfl Try.underlying22 info47 rfl (by decide) (by omega) u131000 x131000_1 (⟨wrap64 (((rd_T47 l0_0 x19_1).f0) + x6_1), t133, t136⟩ : S47) [.int .i64 (wrap64 (((rd_T47 l0_0 x19_1).f0) + x6_1)), .slice Ao54 t133.length co54, .slice Ao53 t136.length co53] (fun k_ => (w.heap.size ≤ k_) ∧ k_ ≠ gb132) (fun k_ => some k_ = ob Ao54 t133.length co54 ∨ some k_ = ob Ao53 t136.length co53) rfl rfl ?aP (fun k_ hk_ => hk_.elim (fun h_ => ((Kd.R_mono (ok' := fun k_ => ((fun k_ => (w.heap.size ≤ k_) ∧ k_ ≠ gb132)) k_ ∧ some k_ ≠ (u131000 : Value).ownBlock) (Kd.R_types (Kd.R_apart' (HO135.out) (Kd.S_typed HO_131000.out) (by decide)) BK132.out (by decide)) (fun k_ hk => ⟨⟨hk.1.1.1.1, hk.2⟩, hk.1.2⟩))).1 k_ h_.symm) (fun h_ => ((Kd.R_mono (ok' := fun k_ => ((fun k_ => (w.heap.size ≤ k_) ∧ k_ ≠ gb132)) k_ ∧ some k_ ≠ (u131000 : Value).ownBlock) (Kd.R_types (Kd.R_apart' (HO138.out) (Kd.S_typed HO_131000.out) (by decide)) BK132.out (by decide)) (fun k_ hk => ⟨⟨hk.1.1.1.1, hk.2⟩, hk.1.2⟩))).1 k_ h_.symm)) ?aF ?aO ?aB ?aS ?aL ?_;(case aP => exact k47_mkM _ _ _ (⟨wrap64 (((rd_T47 l0_0 x19_1).f0) + x6_1), t133, t136⟩ : S47) (Kd.R_mono (Kd.R_tight rfl (Kd.R_mono (ok' := fun k_ => ((fun k_ => (w.heap.size ≤ k_) ∧ k_ ≠ gb132)) k_ ∧ some k_ ≠ (u131000 : Value).ownBlock) (Kd.R_types (Kd.R_apart' (HO135.out) (Kd.S_typed HO_131000.out) (by decide)) BK132.out (by decide)) (fun k_ hk => ⟨⟨hk.1.1.1.1, hk.2⟩, hk.1.2⟩))) (fun _ h_ => Or.inl h_)) (Kd.R_mono (Kd.R_tight rfl (Kd.R_mono (ok' := fun k_ => ((fun k_ => (w.heap.size ≤ k_) ∧ k_ ≠ gb132)) k_ ∧ some k_ ≠ (u131000 : Value).ownBlock) (Kd.R_types (Kd.R_apart' (HO138.out) (Kd.S_typed HO_131000.out) (by decide)) BK132.out (by decide)) (fun k_ hk => ⟨⟨hk.1.1.1.1, hk.2⟩, hk.1.2⟩))) (fun _ h_ => Or.inr (h_))));(case aB => exact eB);(case aF => exact (fun k_ hk => ⟨(Nat.le_trans (below_size eB) hk), Kd.freshB (g := gb132) (o := .cells #[.int .i64 ((rd_T47 l0_0 x19_1).f0), .slice A131_1 ((rd_T47 l0_0 x19_1).f1).length c131_1, .slice A131_2 ((rd_T47 l0_0 x19_1).f2).length c131_2] 47 (0, 0)) kK k_ hk⟩));(case aO => exact (sM HO_131000 (fun k_ hk => ⟨⟨hk.1.1.1, hk.1.1.2⟩, fun e_ => e_.elim (fun h_ => hk.1.2 h_) (fun h_ => hk.2 h_)⟩)));(case aS => exact (below_size eB));(case aL => have := LMc41.out;omega)
                intro v140 w55 ho hb hg hat
                rw [← Ny139.out] at ho;have n0_ := Aside0.mk (blk_grown (g := gb124) (o := .cells #[.slice (some ad131) l0_0.length c0_0] 24 (0, 0)) kK hg (Kd.S_ne HO_131000.out BK124.out (by decide)));have n1_ := Aside0.mk (blk_grown (g := gb125) (o := .cells #[.slice none 0 0] 24 (0, 0)) kK hg (Kd.S_ne HO_131000.out BK125.out (by decide)));have n2_ := Aside0.mk (blk_grown (g := gb126) (o := .cells #[.int .i64 0, .int .i64 0] 27 (0, 0)) kK hg (Kd.S_ne HO_131000.out BK126.out (by decide)));have n3_ := Aside0.mk (blk_grown (g := gb129) (o := .cells #[.int .i64 t127, .int .i64 t128] 27 (0, 0)) kK hg (Kd.S_ne HO_131000.out BK129.out (by decide)));have n4_ := Aside0.mk (blk_grown (g := gb130) (o := .cells #[u131000] 24 (0, 0)) kK hg (Kd.S_ne HO_131000.out BK130.out (by decide)));have n5_ := Aside0.mk (blk_grown (g := gb132) (o := .cells #[.int .i64 ((rd_T47 l0_0 x19_1).f0), .slice A131_1 ((rd_T47 l0_0 x19_1).f1).length c131_1, .slice A131_2 ((rd_T47 l0_0 x19_1).f2).length c131_2] 47 (0, 0)) kK hg (Kd.S_away HO_131000.out (fun _ hk => hk.1.1.2)));have n6_ := Aside0.mk (hb);have n7_ := Aside0.mk (ho);clear BK124;clear BK125;clear BK126;clear BK129;clear BK130;clear BK132;clear HB;clear HO_131000;clear HO135;clear HO138;have BK124 := n0_;have BK125 := n1_;have BK126 := n2_;have BK129 := n3_;have BK130 := n4_;have BK132 := n5_;have HB := n6_;have HO141 := n7_;clear n0_ n1_ n2_ n3_ n4_ n5_ n6_ n7_;clear ho hb hg hat;obtain ⟨Ao56, co56, eo56⟩ := Kd.S_slice HO141.out
                (first|subst eo56|(injection eo56 with f1_ f2_ f3_;have f4_ := f1_.symm;have f5_ := f3_.symm;clear f1_ f2_ f3_;subst f4_;subst f5_))
                refine hK.out _ _ ⟨(blk_cell BK130.out 0).trans rfl, (blk_cell BK132.out 0).trans rfl, (blk_cell BK132.out 1).trans rfl, (blk_cell BK132.out 2).trans rfl⟩ (fun hHeld => ?_);clear hK K;refine nmA (some 37) ?_;refine pA 15 38 (mb 17 65535) HT_ rfl rfl ?_;refine last_ (i := 16) (N := none) (mb 17 131071) rfl rfl (one_of HT_.out (by kernel_rfl)) (by decide) (fun K hK => ?_);have hs57 : w55.cell? ⟨gb130, 0, none⟩ = some (u131000) := (blk_cell BK130.out 0).trans rfl;have hfs57 := blk_frozen BK130.out 0;have := NB124_130.out;have := NB125_130.out;have := NB126_130.out;have := NB129_130.out;have := NB132_130.out;have := NB130_124.out;have := NB130_125.out;have := NB130_126.out;have := NB130_129.out;have := NB130_132.out;refine skip_ (w1 := ?_) (by rfl) rfl ?_ ?_;rotate_left
                · go_simp
                  rfl
                refine hK.out _ _ ?_;clear hK K;refine done_ (done_of HT_.out (by kernel_rfl)) ?_;have hcz58_0 := hC BK132 0 (.int .i64 ((rd_T47 l0_0 x19_1).f0));have hcz58_1 := hC BK132 1 (.slice A131_1 ((rd_T47 l0_0 x19_1).f1).length c131_1);have hcz58_2 := hC BK132 2 (.slice A131_2 ((rd_T47 l0_0 x19_1).f2).length c131_2);have hfz58_0 := blk_frozen BK132.out 0;have hfz58_1 := blk_frozen BK132.out 1;have hfz58_2 := blk_frozen BK132.out 2
                try go_wp2
                go_roundg k1
                case measure => have := HK1.out;omega
                case rel => exact ⟨(wrap64 (x6_1 + (wrap64 ((((rd_T47 l0_0 x19_1).f2).length : Int) - (((rd_T47 l0_0 x19_1).f1).length : Int))))), (wrap64 (x19_1 + 1)), (y139), (.slice Ao56 y139.length co56), (by first|rfl|(simp only [i64_w, i32_w];done)|(simp only [i64_w, i32_w];rfl)|(simp;done)|(simp [*];done)), (by first|rfl|(simp only [i64_w, i32_w];done)|(simp only [i64_w, i32_w];rfl)|(simp;done)|(simp [*];done)), H', ⟨by have := HK1.out;omega⟩, ⟨by (with_reducible repeat (first|apply Kd.S_alloc|apply Kd.S_drewN|apply Kd.S_drew));exact Kd.S_mono (Kd.S_far (p := ⟨gb130, 0, none⟩) (Kd.S_types HO141.out BK130.out (by decide)) (fun _ hk => hk.2) (.slice Ao56 y139.length co56)) (fun _ hk => hk.1.1)⟩, ⟨kK⟩, ⟨kK⟩, ⟨kK⟩, ⟨kK⟩, ⟨kK⟩, ⟨eB⟩⟩
              · rw [if_neg c41] at H;exact absurd H (by simp)
            · rw [if_neg c38] at H;exact absurd H (by simp)
          · rw [if_neg c37] at H;exact absurd H (by simp)
        · rw [if_neg c36] at H;have c36b0 : decide (x19_1 < (l0_0.length : Int)) = false := decide_eq_false c36;clear c36;replace H := Option.bind_eq_some_iff.mp H;obtain ⟨⟨t142, t145, t146⟩, A590, H⟩ := H;replace H : (some (t142, t145, t146)) = some (r1, r2, r3) := H;have A59 := Aside0.mk A590;clear A590;simp only [Option.some.injEq, Prod.mk.injEq] at H;obtain ⟨rfl, rfl, rfl⟩ := H;have hnb60 := NB130_124.out;have hnc60 := NB124_130.out;have hnb61 := NB130_125.out;have hnc61 := NB125_130.out;have hnb62 := NB130_126.out;have hnc62 := NB126_130.out;have hnb63 := NB130_129.out;have hnc63 := NB129_130.out;have hcz64_0 : wr.cell? ⟨gb130, 0, none⟩ = some (u131000) := (blk_cell BK130.out 0).trans rfl;have hfz64_0 := blk_frozen BK130.out 0;obtain ⟨Ao65, co65, eo65⟩ := Kd.S_slice HO_131000.out;subst eo65
          go_wp2_with (first|((with_reducible refine gate_callee (f := 40) rfl ?_);refine goesL_ (some 50) rfl rfl Try.func40 (by kernel_rfl) rfl #[.agg #[.slice Ao65 x131000_1.length co65]] rfl mA ?_;(with_reducible refine (textpatch_Fit.calls (fun k_ => ((((((w.heap.size ≤ k_) ∧ k_ ≠ gb124) ∧ k_ ≠ gb125) ∧ k_ ≠ gb126) ∧ k_ ≠ gb129) ∧ k_ ≠ gb130)) _ _ x131000_1 t142 t145 t146 _ ?side1 A59.out).mono ?_);(case side1 => exact Kd.S_V (Kd.S_types (Kd.S_types (Kd.S_types (Kd.S_types (Kd.S_types (HO_131000.out) BK124.out (by decide)) BK125.out (by decide)) BK126.out (by decide)) BK129.out (by decide)) BK130.out (by decide)));rintro e w66 ⟨v143, rfl, ho0, hb⟩;refine ⟨_, rfl, ?_⟩;have HO144 := Aside0.mk (Kd.V_lower (Kd.V_mono (ok' := fun k_ => (w.heap.size ≤ k_) ∧ k_ ≠ gb124 ∧ k_ ≠ gb125 ∧ k_ ≠ gb126 ∧ k_ ≠ gb129 ∧ k_ ≠ gb130) ho0 (fun k_ hk_ => ⟨Or.elim hk_ (fun hs_ => hs_.1.1.1.1.1) (fun hn_ => (Nat.le_trans (below_size eB) hn_)), Or.elim hk_ (fun hs_ => hs_.1.1.1.1.2) (fun hn_ => (Kd.freshB (g := gb124) (o := .cells #[.slice A0_0 l0_0.length c0_0] 24 (0, 0)) kK k_ hn_)), Or.elim hk_ (fun hs_ => hs_.1.1.1.2) (fun hn_ => (Kd.freshB (g := gb125) (o := .cells #[.slice none 0 0] 24 (0, 0)) kK k_ hn_)), Or.elim hk_ (fun hs_ => hs_.1.1.2) (fun hn_ => (Kd.freshB (g := gb126) (o := .cells #[.int .i64 0, .int .i64 0] 27 (0, 0)) kK k_ hn_)), Or.elim hk_ (fun hs_ => hs_.1.2) (fun hn_ => (Kd.freshB (g := gb129) (o := .cells #[.int .i64 t127, .int .i64 t128] 27 (0, 0)) kK k_ hn_)), Or.elim hk_ (fun hs_ => hs_.2) (fun hn_ => (Kd.freshB (g := gb130) (o := .cells #[.slice Ao65 x131000_1.length co65] 24 (0, 0)) kK k_ hn_))⟩)) (below_size eB));replace HO_131000 := Aside0.mk (Kd.S_below (sK HO_131000) hb);replace BK124 := lJ BK124 hb;replace BK125 := lJ BK125 hb;replace BK126 := lJ BK126 hb;replace BK129 := lJ BK129 hb;replace BK130 := lJ BK130 hb;replace HB := sBe HB hb;(try clear hb ho0);obtain ⟨Ao67, co67, eo67⟩ := Kd.V_slice HO144.out;subst eo67;have hnb68 := NB125_124.out;have hnc68 := NB124_125.out;have hnb69 := NB125_126.out;have hnc69 := NB126_125.out;have hnb70 := NB125_129.out;have hnc70 := NB129_125.out;have hcz71_0 := hC BK125 0 (.slice none 0 0);have hfz71_0 := blk_frozen BK125.out 0;have hnb72 := NB126_124.out;have hnc72 := NB124_126.out;have hnb73 := NB126_129.out;have hnc73 := NB129_126.out;have hcz74_0 := hC BK126 0 (.int .i64 0);have hcz74_1 := hC BK126 1 (.int .i64 0);have hfz74_0 := blk_frozen BK126.out 0;have hfz74_1 := blk_frozen BK126.out 1))
          refine bodyPost_ret (results_cc rfl _ _ gb125 gb126 24 27 #[.slice Ao67 t142.length co67] #[.int .i64 t145, .int .i64 t146] (0, 0) (0, 0) _ _ rfl kK Try.underlying24 rfl (by kernel_rfl) rfl kK Try.underlying27 rfl (by kernel_rfl)) rfl ?_;exact ⟨_, rW, by (with_reducible repeat (first|apply Kd.V_alloc|apply Kd.V_drewN|apply Kd.V_drew));exact Kd.V_mono (Kd.V_far (p := ⟨gb126, 1, none⟩) (Kd.V_far (p := ⟨gb126, 0, none⟩) (Kd.V_far (p := ⟨gb125, 0, none⟩) (Kd.V_mono (Kd.V_mono HO144.out (fun k_ hk => (⟨hk, hk.2.2.1⟩ : _ ∧ k_ ≠ gb125))) (fun k_ hk => (⟨hk, hk.1.2.2.2.1⟩ : _ ∧ k_ ≠ gb126))) (fun _ hk => hk.1.2) (.slice Ao67 t142.length co67)) (fun _ hk => hk.2) (.int .i64 t145)) (fun _ hk => hk.2) (.int .i64 t146)) (fun _ hk => hk.1.1.1), eB⟩

end Go.Proofs.Ytdnnkhogpobjbaa.PY
