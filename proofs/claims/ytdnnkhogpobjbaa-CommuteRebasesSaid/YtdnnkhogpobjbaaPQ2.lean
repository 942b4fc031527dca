/- Printed by a program of this session out of the translation: Lean functions for Go functions, and proofs that the Go functions answer the same. -/
import Derived.Test.YtdnnkhogpobjbaaPQ0
namespace Go.Proofs.Ytdnnkhogpobjbaa.PQ
open Go.RowKit Go.Proofs.Ytdnnkhogpobjbaa.Pre Go.Proofs.YtdnnkhogpobjbaaW.PrintWords Go.Proofs.YtdnnkhogpobjbaaW.PrintLast Go.Proofs.YtdnnkhogpobjbaaW.PrintMore
attribute [local go_sem] max2_int min2_int max_two min_two max_three min_three max_four min_four   -- for this text's walks alone
set_option linter.unusedVariables false
set_option linter.unusedSimpArgs false

/-! ### textpatch_End: function 33 -/
def textpatch_End.f (a0_0 : Int) (l0_1 : List ByteArray) (l0_2 : List ByteArray) : Option (Int) := some (wrap64 (a0_0 + (l0_1.length : Int)))
set_option maxHeartbeats 8000000 in
set_option maxRecDepth 100000 in
theorem textpatch_End.calls (a0_0 : Int) (A0_1 : Option Addr) (c0_1 : Nat) (l0_1 : List ByteArray) (A0_2 : Option Addr) (c0_2 : Nat) (l0_2 : List ByteArray) (r : Int) (w : World) (hr0_1 : Kd.C Kd.string w A0_1 l0_1.length l0_1) (hc0_1 : l0_1.length ≤ c0_1) (hr0_2 : Kd.C Kd.string w A0_2 l0_2.length l0_2) (hc0_2 : l0_2.length ≤ c0_2) (h : textpatch_End.f a0_0 l0_1 l0_2 = some r) :
    Calls Try.prog 33 #[.agg #[.int .i64 a0_0, .slice A0_1 l0_1.length c0_1, .slice A0_2 l0_2.length c0_2]] w fun e w' => e = .returned (.int .i64 r) ∧ Below w.heap.size w w' := by
  have hu47 := Try.underlying47;have HR0_1 := Aside0.mk hr0_1;have HC0_1 := Aside0.mk hc0_1;clear hr0_1 hc0_1;have HR0_2 := Aside0.mk hr0_2;have HC0_2 := Aside0.mk hc0_2;clear hr0_2 hc0_2;have HB := Aside0.mk (Below.refl w.heap.size w);have H : (some (wrap64 (a0_0 + (l0_1.length : Int)))) = some r := h;clear h;obtain rfl := Option.some.inj H
  go_enter Try.func33, Try.ntmps33
  go_wp2_with (first|((with_reducible refine gate_dst (N := 1) rfl ?_);refine bE 1 #[.int .i64 a0_0, .slice A0_1 l0_1.length c0_1, .slice A0_2 l0_2.length c0_2] 47 ?_;intro gb101 hg w2 hbox hb;have BK101 := Aside0.mk (hbox);have GW101 := gBe HB hg;have GE101 := gBe HB hg;replace HB := sBe HB hb;clear hb hbox hg;have hcz3_0 := hC BK101 0 (.int .i64 a0_0);have hcz3_1 := hC BK101 1 (.slice A0_1 l0_1.length c0_1);have hcz3_2 := hC BK101 2 (.slice A0_2 l0_2.length c0_2);have hfz3_0 := blk_frozen BK101.out 0;have hfz3_1 := blk_frozen BK101.out 1;have hfz3_2 := blk_frozen BK101.out 2))
  go_ret
  exact ⟨rW, eB⟩

/-! ### strings_ContainsRune: function 67 -/
theorem indexByte_ge (c : UInt8) : ∀ l : List UInt8, decide (0 ≤ Lib.indexByte l c) = l.contains c ∧ -1 ≤ Lib.indexByte l c
  | [] => ⟨by simp [Lib.indexByte], by simp [Lib.indexByte]⟩
  | b :: l => by
    obtain ⟨ih1, ih2⟩ := indexByte_ge c l
    unfold Lib.indexByte
    by_cases h : b = c
    · subst h; simp
    · have hb : (b == c) = false := by simpa using h
      have hc : (c == b) = false := by simpa using fun e => h e.symm
      by_cases h2 : Lib.indexByte l c = -1
      · rw [h2] at ih1
        simp [h, h2] at ih1 ⊢
        exact ⟨fun e => h e.symm, ih1⟩
      · have h3 : (Lib.indexByte l c == -1) = false := by simpa using h2
        simp only [hb, h3, Bool.false_eq_true, if_false, List.contains_cons, hc, Bool.false_or]
        rw [← ih1]
        exact ⟨by rw [Bool.eq_iff_iff]; simp; omega, by omega⟩
def strings_ContainsRune.f (a0 : ByteArray) (a1 : Int) : Option (Bool) :=  if a1 = 10 then some (hasNl a0) else none
theorem strings_ContainsRune.calls (a0 : ByteArray) (a1 : Int) (r : Bool) (w : World) (h : strings_ContainsRune.f a0 a1 = some r) :
    Calls Try.prog 67 #[.string a0, .int .i32 a1] w fun e w' => e = .returned (.bool r) ∧ Drawn0 w w' := by
  unfold strings_ContainsRune.f at h
  split at h
  · rename_i e
    subst e
    obtain rfl := Option.some.inj h
    refine (Go.Proofs.Try.strings_ContainsRune_ascii a0 10 w (by omega) (by omega)).mono ?_
    rintro e w' ⟨rfl, rfl⟩
    refine ⟨?_, Drawn0.refl _⟩
    have e10 : (10 : Int).toNat.toUInt8 = 10 := by decide
    rw [e10, (indexByte_ge 10 a0.data.toList).1]
    rfl
  · cases h


/-! ### lines_Validate_0: function 57 -/
def lines_Validate_0.l0 : Nat → List ByteArray → Int → Int → Option (Int × Int)
  | 0, _, _, _ => none
  | k + 1, x9, x10, x11 => if x11 < x10 then (if 0 ≤ x11 then (if x11 < (x9.length : Int) then (if ((rdOf ByteArray.empty x9 x11).size : Int) > 80 then (some (2, x11)) else ((strings_ContainsRune.f (rdOf ByteArray.empty x9 x11) 10).bind fun t104 => (if t104 = true then (some (5, x11)) else (lines_Validate_0.l0 k x9 x10 (wrap64 (x11 + 1)))))) else (none)) else (none)) else (some (0, 0))
def lines_Validate_0.f (k : Nat) (l0 : List ByteArray) : Option (Int × Int) := if (l0.length : Int) > 120 then (some (2, (-1))) else (lines_Validate_0.l0 k l0 (l0.length : Int) 0)
theorem lines_Validate_0.mono_l : ∀ k, (∀ y0 y1 y2, LeO (lines_Validate_0.l0 k y0 y1 y2) (lines_Validate_0.l0 (k + 1) y0 y1 y2))
  | 0 => fun _ _ _ r h => by simp [lines_Validate_0.l0] at h
  | k + 1 => by
    have ih0 := lines_Validate_0.mono_l k
    · intro y0 y1 y2
      unfold lines_Validate_0.l0
      repeat' first
      | (with_reducible exact ih0 _ _ _)
      | (with_reducible exact LeO.refl _)
      | (with_reducible exact LeO.none _)
      | (with_reducible refine LeO.ite ?_ ?_)
      | (with_reducible refine LeO.bind ?_ (fun _ => ?_))
      | exact ih0 _ _ _
      | exact LeO.none _
      | refine LeO.ite ?_ ?_
      | refine LeO.bind ?_ (fun _ => ?_)
theorem lines_Validate_0.mono : ∀ a0 k, LeO (lines_Validate_0.f k a0) (lines_Validate_0.f (k + 1) a0) := by
  intro a0 k
  have ih0 := lines_Validate_0.mono_l k
  unfold lines_Validate_0.f
  repeat' first
      | (with_reducible exact ih0 _ _ _)
      | (with_reducible exact LeO.refl _)
      | (with_reducible exact LeO.none _)
      | (with_reducible refine LeO.ite ?_ ?_)
      | (with_reducible refine LeO.bind ?_ (fun _ => ?_))
      | exact ih0 _ _ _
      | exact LeO.none _
      | refine LeO.ite ?_ ?_
      | refine LeO.bind ?_ (fun _ => ?_)
set_option maxHeartbeats 8000000 in
set_option maxRecDepth 100000 in
theorem lines_Validate_0.calls (k : Nat) (A0 : Option Addr) (c0 : Nat) (l0 : List ByteArray) (r1 : Int) (r2 : Int) (w : World) (hr0 : Kd.C Kd.string w A0 l0.length l0) (hc0 : l0.length ≤ c0) (h : lines_Validate_0.f k l0 = some (r1, r2)) :
    Calls Try.prog 57 #[.slice A0 l0.length c0] w fun e w' => e = .returned (.agg #[.int .i64 r1, .int .i64 r2]) ∧ Below w.heap.size w w' := by
  have hu27 := Try.underlying27;have HR0 := Aside0.mk hr0;have HC0 := Aside0.mk hc0;clear hr0 hc0;have HB := Aside0.mk (Below.refl w.heap.size w);have H : (if (l0.length : Int) > 120 then (some (2, (-1))) else (lines_Validate_0.l0 k l0 (l0.length : Int) 0)) = some (r1, r2) := h;clear h
  by_cases c2 : (l0.length : Int) > 120
  · rw [if_pos c2] at H;have c2b0 : decide (120 < (l0.length : Int)) = true := decide_eq_true c2;have c2b1 : decide (120 < l0.length) = true := decide_eq_true (by omega);clear c2;simp only [Option.some.injEq, Prod.mk.injEq] at H;obtain ⟨rfl, rfl⟩ := H
    go_enter Try.func57, Try.ntmps57
    go_wp2_with (first|((with_reducible refine gate_dst (N := 2) rfl ?_);refine bE 2 #[.int .i64 0, .int .i64 0] 27 ?_;intro gb102 hg w3 hbox hb;have BK102 := Aside0.mk (hbox);have GW102 := gBe HB hg;have GE102 := gBe HB hg;replace HB := sBe HB hb;clear hb hbox hg;have hcz4_0 := hC BK102 0 (.int .i64 0);have hcz4_1 := hC BK102 1 (.int .i64 0);have hfz4_0 := blk_frozen BK102.out 0;have hfz4_1 := blk_frozen BK102.out 1))
    refine bodyPost_ret (results_cell_row rfl _ _ gb102 27 #[.int .i64 2, .int .i64 (-1)] (0, 0) _ rfl kK Try.underlying27 rfl (by kernel_rfl)) rfl ?_;exact ⟨rW, eB⟩
  · rw [if_neg c2] at H;have c2b0 : decide (120 < (l0.length : Int)) = false := decide_eq_false c2;have c2b1 : decide (120 < l0.length) = false := decide_eq_false (by omega);clear c2;have H' := Aside0.mk H;clear H
    go_enter Try.func57, Try.ntmps57
    go_wp2_with (first|((with_reducible refine gate_dst (N := 2) rfl ?_);refine bE 2 #[.int .i64 0, .int .i64 0] 27 ?_;intro gb102 hg w5 hbox hb;have BK102 := Aside0.mk (hbox);have GW102 := gBe HB hg;have GE102 := gBe HB hg;replace HB := sBe HB hb;clear hb hbox hg))
    go_loopg [11] k (fun kq v11 w' => ∃ (x11_1 : Int) (x103000_1 : Int) (x103001_1 : Int), v11 = .int .i64 x11_1 ∧ Aside0 (lines_Validate_0.l0 kq l0 (l0.length : Int) x11_1 = some (r1, r2)) ∧ Aside0 (kq ≤ k) ∧ Bk w' gb102 27 #[.int .i64 x103000_1, .int .i64 x103001_1] ∧ Aside0 (Below w.heap.size w w'))
    case atStart => exact ⟨(0), (0), (0), (by first|rfl|(simp only [i64_w, i32_w];done)|(simp only [i64_w, i32_w];rfl)|(simp;done)|(simp [*];done)), H', ⟨Nat.le_refl _⟩, ⟨kK⟩, ⟨eB⟩⟩
    case round =>
      clear H'
      try clear c2
      try clear c2b0
      try clear c2b1
      try clear p2
      try clear c5
      try clear hcz4_0
      try clear hcz4_1
      try clear hfz4_0
      try clear hfz4_1
      obtain ⟨x11_1, x103000_1, x103001_1, rfl, HA, HK1, BK102, HB⟩ := hrel
      cases gk with
      | zero => exact absurd HA.out (by simp [lines_Validate_0.l0])
      | succ k1 =>
        have H := HA.out;clear HA;simp only [lines_Validate_0.l0] at H
        by_cases c6 : x11_1 < (l0.length : Int)
        · rw [if_pos c6] at H;have c6b0 : decide (x11_1 < (l0.length : Int)) = true := decide_eq_true c6;clear c6
          by_cases c7 : 0 ≤ x11_1
          · rw [if_pos c7] at H;have c7b0 : decide (0 ≤ x11_1) = true := decide_eq_true c7;clear c7
            by_cases c8 : x11_1 < (l0.length : Int)
            · rw [if_pos c8] at H;have c8b0 : decide (x11_1 < (l0.length : Int)) = true := decide_eq_true c8;clear c8
              by_cases c9 : ((rdOf ByteArray.empty l0 x11_1).size : Int) > 80
              · rw [if_pos c9] at H;have c9b0 : decide (80 < ((rdOf ByteArray.empty l0 x11_1).size : Int)) = true := decide_eq_true c9;have c9b1 : decide (80 < (rdOf ByteArray.empty l0 x11_1).size) = true := decide_eq_true (by omega);clear c9;simp only [Option.some.injEq, Prod.mk.injEq] at H;obtain ⟨rfl, rfl⟩ := H;have p103 : 0 ≤ (x11_1 : Int) := dA;have q103 : x11_1 < (l0.length : Int) := dA;obtain ⟨ad103, e103, hx103_0⟩ := Kd.at_string HR0.out x11_1 p103 q103
                cases e103
                replace hx103_0 := (hX HB hx103_0:);replace p103 := eq_true p103;replace q103 := eq_true q103;have hcz10_0 : wr.cell? ⟨gb102, 0, none⟩ = some (.int .i64 x103000_1) := (blk_cell BK102.out 0).trans rfl;have hcz10_1 : wr.cell? ⟨gb102, 1, none⟩ = some (.int .i64 x103001_1) := (blk_cell BK102.out 1).trans rfl;have hfz10_0 := blk_frozen BK102.out 0;have hfz10_1 := blk_frozen BK102.out 1
                go_wp2
                refine bodyPost_ret (results_cell_row rfl _ _ gb102 27 #[.int .i64 2, .int .i64 x11_1] (0, 0) _ rfl kK Try.underlying27 rfl (by kernel_rfl)) rfl ?_;exact ⟨rW, eB⟩
              · rw [if_neg c9] at H;have c9b0 : decide (80 < ((rdOf ByteArray.empty l0 x11_1).size : Int)) = false := decide_eq_false c9;have c9b1 : decide (80 < (rdOf ByteArray.empty l0 x11_1).size) = false := decide_eq_false (by omega);clear c9;replace H := Option.bind_eq_some_iff.mp H;obtain ⟨t104, A110, H⟩ := H;replace H : (if t104 = true then (some (5, x11_1)) else (lines_Validate_0.l0 k1 l0 (l0.length : Int) (wrap64 (x11_1 + 1)))) = some (r1, r2) := H;have A11 := Aside0.mk A110;clear A110
                by_cases c12 : t104 = true
                · subst c12;have H1 : (some (5, x11_1)) = some (r1, r2) := (by rw [if_pos rfl] at H;exact H);clear H;have H := H1;clear H1;simp only [Option.some.injEq, Prod.mk.injEq] at H;obtain ⟨rfl, rfl⟩ := H;have p103 : 0 ≤ (x11_1 : Int) := dA;have q103 : x11_1 < (l0.length : Int) := dA;obtain ⟨ad103, e103, hx103_0⟩ := Kd.at_string HR0.out x11_1 p103 q103
                  cases e103
                  replace hx103_0 := (hX HB hx103_0:);replace p103 := eq_true p103;replace q103 := eq_true q103
                  go_wp2_with (first|((with_reducible refine gate_callee (f := 67) rfl ?_);refine goesL_ (some 24) rfl rfl Try.func67 (by kernel_rfl) rfl #[.string (rdOf ByteArray.empty l0 x11_1), .int .i32 10] rfl mA ?_;(with_reducible refine (strings_ContainsRune.calls (rdOf ByteArray.empty l0 x11_1) 10 true _ A11.out).mono ?_);rintro e w' ⟨rfl, ⟨nd, rfl⟩⟩;refine ⟨_, rfl, ?_⟩;(try (rw [drewN_self wr];generalize hq_ : World.drewN wr _ = wr;have n0_ : Aside0 (wr.heap[gb102]? = some (.cells #[.int .i64 x103000_1, .int .i64 x103001_1] 27 (0, 0))) := ⟨by rw [← hq_];exact kK⟩;have n1_ : Aside0 (Below w.heap.size w wr) := ⟨by rw [← hq_];exact eB⟩;clear BK102 HB hq_;have BK102 := n0_;have HB := n1_;clear n0_ n1_));have hcz13_0 : wr.cell? ⟨gb102, 0, none⟩ = some (.int .i64 x103000_1) := (blk_cell BK102.out 0).trans rfl;have hcz13_1 : wr.cell? ⟨gb102, 1, none⟩ = some (.int .i64 x103001_1) := (blk_cell BK102.out 1).trans rfl;have hfz13_0 := blk_frozen BK102.out 0;have hfz13_1 := blk_frozen BK102.out 1))
                  refine bodyPost_ret (results_cell_row rfl _ _ gb102 27 #[.int .i64 5, .int .i64 x11_1] (0, 0) _ rfl kK Try.underlying27 rfl (by kernel_rfl)) rfl ?_;exact ⟨rW, eB⟩
                · replace c12 := Bool.eq_false_iff.mpr c12;subst c12;have H1 : (lines_Validate_0.l0 k1 l0 (l0.length : Int) (wrap64 (x11_1 + 1))) = some (r1, r2) := (by rw [if_neg (show ¬ (false = true) by decide)] at H;exact H);clear H;have H := H1;clear H1;have H' := Aside0.mk H;clear H;have p103 : 0 ≤ (x11_1 : Int) := dA;have q103 : x11_1 < (l0.length : Int) := dA;obtain ⟨ad103, e103, hx103_0⟩ := Kd.at_string HR0.out x11_1 p103 q103
                  cases e103
                  replace hx103_0 := (hX HB hx103_0:);replace p103 := eq_true p103;replace q103 := eq_true q103
                  go_wp2_with (first|((with_reducible refine gate_callee (f := 67) rfl ?_);refine goesL_ (some 24) rfl rfl Try.func67 (by kernel_rfl) rfl #[.string (rdOf ByteArray.empty l0 x11_1), .int .i32 10] rfl mA ?_;(with_reducible refine (strings_ContainsRune.calls (rdOf ByteArray.empty l0 x11_1) 10 false _ A11.out).mono ?_);rintro e w' ⟨rfl, ⟨nd, rfl⟩⟩;refine ⟨_, rfl, ?_⟩))
                  go_roundg k1
                  case measure => have := HK1.out;omega
                  case rel => exact ⟨(wrap64 (x11_1 + 1)), (x103000_1), (x103001_1), (by first|rfl|(simp only [i64_w, i32_w];done)|(simp only [i64_w, i32_w];rfl)|(simp;done)|(simp [*];done)), H', ⟨by have := HK1.out;omega⟩, ⟨kK⟩, ⟨eB⟩⟩
            · rw [if_neg c8] at H;exact absurd H (by simp)
          · rw [if_neg c7] at H;exact absurd H (by simp)
        · rw [if_neg c6] at H;have c6b0 : decide (x11_1 < (l0.length : Int)) = false := decide_eq_false c6;clear c6;simp only [Option.some.injEq, Prod.mk.injEq] at H;obtain ⟨rfl, rfl⟩ := H;have hcz14_0 : wr.cell? ⟨gb102, 0, none⟩ = some (.int .i64 x103000_1) := (blk_cell BK102.out 0).trans rfl;have hcz14_1 : wr.cell? ⟨gb102, 1, none⟩ = some (.int .i64 x103001_1) := (blk_cell BK102.out 1).trans rfl;have hfz14_0 := blk_frozen BK102.out 0;have hfz14_1 := blk_frozen BK102.out 1
          go_wp2
          refine bodyPost_ret (results_cell_row rfl _ _ gb102 27 #[.int .i64 0, .int .i64 0] (0, 0) _ rfl kK Try.underlying27 rfl (by kernel_rfl)) rfl ?_;exact ⟨rW, eB⟩

/-! ### lines_Validate: function 57 -/
theorem lines_Validate_0.loop (l : List ByteArray) (hl : l.length ≤ 120) (d : Nat) : ∀ (k i : Nat), i ≤ l.length → l.length - i = d → d < k → lines_Validate_0.l0 k l (l.length : Int) (i : Int) = some (faultAt (l.drop i) (i : Int)) := by
  induction d with
  | zero =>
    intro k i hi hd hk
    obtain ⟨k, rfl⟩ : ∃ m, k = m + 1 := ⟨k - 1, by omega⟩
    simp only [lines_Validate_0.l0]
    rw [if_neg (by omega), List.drop_eq_nil_of_le (by omega)]
    rfl
  | succ d ih =>
    intro k i hi hd hk
    obtain ⟨k, rfl⟩ : ∃ m, k = m + 1 := ⟨k - 1, by omega⟩
    rw [rdOf_drop ByteArray.empty l i (by omega)]
    generalize hs : rdOf ByteArray.empty l (i : Int) = s
    simp only [lines_Validate_0.l0, hs]
    rw [if_pos (by omega), if_pos (by omega), if_pos (by omega)]
    simp only [faultAt]
    by_cases h1 : 80 < s.size
    · rw [if_pos (by omega), if_pos h1]
    · rw [if_neg (by omega), if_neg h1]
      simp only [strings_ContainsRune.f, if_true, Option.bind_some]
      by_cases h2 : hasNl s = true
      · rw [if_pos h2, if_pos h2]
      · rw [if_neg h2, if_neg h2, w64 (by omega) (by omega)]
        have := ih k (i + 1) (by omega) (by omega) (by omega)
        rw [Int.natCast_add] at this
        exact this
def lines_Validate.f (l0 : List ByteArray) : Option (Int × Int) :=  some (linesFault l0)
theorem lines_Validate.calls (A0 : Option Addr) (c0 : Nat) (l0 : List ByteArray) (r1 : Int) (r2 : Int) (w : World) (hr0 : Kd.C Kd.string w A0 l0.length l0) (hc0 : l0.length ≤ c0) (h : lines_Validate.f l0 = some (r1, r2)) :
    Calls Try.prog 57 #[.slice A0 l0.length c0] w fun e w' => e = .returned (.agg #[.int .i64 r1, .int .i64 r2]) ∧ Below w.heap.size w w' := by
  have h' : lines_Validate_0.f 121 l0 = some (r1, r2) := by
    rw [← h]
    unfold lines_Validate_0.f lines_Validate.f linesFault
    by_cases c : 120 < l0.length
    · rw [if_pos (by omega), if_pos c]
    · rw [if_neg (by omega), if_neg c]
      exact lines_Validate_0.loop l0 (by omega) l0.length 121 0 (by omega) (by omega) (by omega)
  exact (lines_Validate_0.calls (121) A0 c0 l0 r1 r2 w hr0 hc0 (h'))


/-! ### lines_Code_0: function 32 -/
def lines_Code_0.f (l0 : List ByteArray) : Option (Int) := (lines_Validate.f l0).bind fun bt105 => (some bt105.1)
set_option maxHeartbeats 8000000 in
set_option maxRecDepth 100000 in
theorem lines_Code_0.calls (A0 : Option Addr) (c0 : Nat) (l0 : List ByteArray) (r : Int) (w : World) (hr0 : Kd.C Kd.string w A0 l0.length l0) (hc0 : l0.length ≤ c0) (h : lines_Code_0.f l0 = some r) :
    Calls Try.prog 32 #[.slice A0 l0.length c0] w fun e w' => e = .returned (.int .i64 r) ∧ Below w.heap.size w w' := by
  have hu27 := Try.underlying27
  have HR0 := Aside0.mk hr0
  have HC0 := Aside0.mk hc0
  clear hr0 hc0
  have HB := Aside0.mk (Below.refl w.heap.size w)
  have H : ((lines_Validate.f l0).bind fun bt105 => (some bt105.1)) = some r := h
  clear h
  replace H := Option.bind_eq_some_iff.mp H
  obtain ⟨⟨t105, t106⟩, A20, H⟩ := H
  replace H : (some t105) = some r := H
  have A2 := Aside0.mk A20
  clear A20
  obtain rfl := Option.some.inj H
  have hfd27_0_ := fun (a0_ a1_ : Int) (w_ : World) => (show (Instr.field 27 (.agg #[.int .i64 a0_, .int .i64 a1_]) 0).run Try.prog w_ = .ok (.int .i64 a0_) w_ by kernel_rfl)
  go_enter Try.func32, Try.ntmps32
  go_wp2_with (first | ((with_reducible refine gate_callee (f := 57) rfl ?_); refine goesL_ (some 4) rfl rfl Try.func57 (by kernel_rfl) rfl #[.slice A0 l0.length c0] rfl (by (try simp only [List.map_toArray, List.map_cons, List.map_nil]); first | done | rfl | (simp only [List.length_drop, List.length_take]; rfl)) ?_; (with_reducible refine (lines_Validate.calls _ _ l0 t105 t106 _ ?side1 ?side2 A2.out).mono ?_); (case side1 => repeat (first | exact HR0.out | (with_reducible refine Kd.C_alloc ?_ _) | (with_reducible refine Kd.C_drewN ?_ _) | (with_reducible refine Kd.C_drew ?_))); (case side2 => exact HC0.out); rintro e w3 ⟨rfl, hb⟩; refine ⟨_, rfl, ?_⟩; have n0_ := Aside0.mk (below_step (by repeat (first | (with_reducible first | exact HB.out | apply below_alloc | apply pw_below_drewN | apply below_drew1) | exact HB.out)) hb); clear HB; have HB := n0_; clear n0_; (try clear hb); (try clear hb2); (try clear hk); (try clear hi)))
  go_ret
  exact ⟨by first | rfl | (simp [errW_none, errW_some] <;> rfl) | (simp [*, errW_none, errW_some] <;> rfl), by repeat (first | (with_reducible first | exact HB.out | apply below_alloc | apply pw_below_drewN | apply below_drew1) | exact HB.out)⟩

/-! ### lines_Code: function 32 -/
def lines_Code.f (l0 : List ByteArray) : Option (Int) :=  some (linesFault l0).1
theorem lines_Code.calls (A0 : Option Addr) (c0 : Nat) (l0 : List ByteArray) (r : Int) (w : World) (hr0 : Kd.C Kd.string w A0 l0.length l0) (hc0 : l0.length ≤ c0) (h : lines_Code.f l0 = some r) :
    Calls Try.prog 32 #[.slice A0 l0.length c0] w fun e w' => e = .returned (.int .i64 r) ∧ Below w.heap.size w w' := by
  have h' : lines_Code_0.f l0 = some r := h
  exact (lines_Code_0.calls A0 c0 l0 r w hr0 hc0 (h'))


/-! ### textpatch_hunkCode_0: function 43 -/
mutual
def textpatch_hunkCode_0.j0 : Nat → Int → Bool → Int → List ByteArray → List ByteArray → Option (Int)
  | 0, _, _, _, _, _ => none
  | k + 1, x1, x5, x108000, x108001, x108002 => if x5 = true then (some 3) else ((lines_Code.f x108001).bind fun t108 => (if t108 = 0 then ((lines_Code.f x108002).bind fun t109 => (if t109 = 0 then (if (x108001.length : Int) = 0 then (if (x108002.length : Int) = 0 then (textpatch_hunkCode_0.j1 k true x108000 x108001 x108002) else (textpatch_hunkCode_0.j1 k (decide (x108000 < x1)) x108000 x108001 x108002)) else (textpatch_hunkCode_0.j1 k (decide (x108000 < x1)) x108000 x108001 x108002)) else ((lines_Code.f x108002).bind fun t111 => (some t111)))) else ((lines_Code.f x108001).bind fun t112 => (some t112))))
def textpatch_hunkCode_0.j1 : Nat → Bool → Int → List ByteArray → List ByteArray → Option (Int)
  | 0, _, _, _, _ => none
  | k + 1, x30, x108000, x108001, x108002 => if x30 = true then (some 5) else ((textpatch_End.f x108000 x108001 x108002).bind fun t110 => (if t110 > 120 then (some 3) else (some 0)))
end
def textpatch_hunkCode_0.f (k : Nat) (a0_0 : Int) (l0_1 : List ByteArray) (l0_2 : List ByteArray) (a1 : Int) : Option (Int) := if a0_0 < 0 then (textpatch_hunkCode_0.j0 k a1 true a0_0 l0_1 l0_2) else (textpatch_hunkCode_0.j0 k a1 (decide (a0_0 > 120)) a0_0 l0_1 l0_2)
theorem textpatch_hunkCode_0.mono_l : ∀ k, (∀ y0 y1 y2 y3 y4, LeO (textpatch_hunkCode_0.j0 k y0 y1 y2 y3 y4) (textpatch_hunkCode_0.j0 (k + 1) y0 y1 y2 y3 y4)) ∧ (∀ y0 y1 y2 y3, LeO (textpatch_hunkCode_0.j1 k y0 y1 y2 y3) (textpatch_hunkCode_0.j1 (k + 1) y0 y1 y2 y3))
  | 0 => ⟨fun _ _ _ _ _ r h => by simp [textpatch_hunkCode_0.j0] at h, fun _ _ _ _ r h => by simp [textpatch_hunkCode_0.j1] at h⟩
  | k + 1 => by
    obtain ⟨ih0, ih1⟩ := textpatch_hunkCode_0.mono_l k;refine ⟨?_, ?_⟩
    · intro y0 y1 y2 y3 y4
      unfold textpatch_hunkCode_0.j0
      repeat' first
      | (with_reducible exact ih0 _ _ _ _ _)
      | (with_reducible exact ih1 _ _ _ _)
      | (with_reducible exact LeO.refl _)
      | (with_reducible exact LeO.none _)
      | (with_reducible refine LeO.ite ?_ ?_)
      | (with_reducible refine LeO.bind ?_ (fun _ => ?_))
      | exact ih0 _ _ _ _ _
      | exact ih1 _ _ _ _
      | exact LeO.none _
      | refine LeO.ite ?_ ?_
      | refine LeO.bind ?_ (fun _ => ?_)
    · intro y0 y1 y2 y3
      unfold textpatch_hunkCode_0.j1
      repeat' first
      | (with_reducible exact ih0 _ _ _ _ _)
      | (with_reducible exact ih1 _ _ _ _)
      | (with_reducible exact LeO.refl _)
      | (with_reducible exact LeO.none _)
      | (with_reducible refine LeO.ite ?_ ?_)
      | (with_reducible refine LeO.bind ?_ (fun _ => ?_))
      | exact ih0 _ _ _ _ _
      | exact ih1 _ _ _ _
      | exact LeO.none _
      | refine LeO.ite ?_ ?_
      | refine LeO.bind ?_ (fun _ => ?_)
theorem textpatch_hunkCode_0.mono : ∀ a0 a1 a2 a3 k, LeO (textpatch_hunkCode_0.f k a0 a1 a2 a3) (textpatch_hunkCode_0.f (k + 1) a0 a1 a2 a3) := by
  intro a0 a1 a2 a3 k
  obtain ⟨ih0, ih1⟩ := textpatch_hunkCode_0.mono_l k
  unfold textpatch_hunkCode_0.f
  repeat' first
      | (with_reducible exact ih0 _ _ _ _ _)
      | (with_reducible exact ih1 _ _ _ _)
      | (with_reducible exact LeO.refl _)
      | (with_reducible exact LeO.none _)
      | (with_reducible refine LeO.ite ?_ ?_)
      | (with_reducible refine LeO.bind ?_ (fun _ => ?_))
      | exact ih0 _ _ _ _ _
      | exact ih1 _ _ _ _
      | exact LeO.none _
      | refine LeO.ite ?_ ?_
      | refine LeO.bind ?_ (fun _ => ?_)
set_option maxHeartbeats 8000000 in
set_option maxRecDepth 100000 in
theorem textpatch_hunkCode_0.calls (k : Nat) (a0_0 : Int) (A0_1 : Option Addr) (c0_1 : Nat) (l0_1 : List ByteArray) (A0_2 : Option Addr) (c0_2 : Nat) (l0_2 : List ByteArray) (a1 : Int) (r : Int) (w : World) (hr0_1 : Kd.C Kd.string w A0_1 l0_1.length l0_1) (hc0_1 : l0_1.length ≤ c0_1) (hr0_2 : Kd.C Kd.string w A0_2 l0_2.length l0_2) (hc0_2 : l0_2.length ≤ c0_2) (h : textpatch_hunkCode_0.f k a0_0 l0_1 l0_2 a1 = some r) :
    Calls Try.prog 43 #[.agg #[.int .i64 a0_0, .slice A0_1 l0_1.length c0_1, .slice A0_2 l0_2.length c0_2], .int .i64 a1] w fun e w' => e = .returned (.int .i64 r) ∧ Below w.heap.size w w' := by
  have hu47 := Try.underlying47;have HR0_1 := Aside0.mk hr0_1;have HC0_1 := Aside0.mk hc0_1;clear hr0_1 hc0_1;have HR0_2 := Aside0.mk hr0_2;have HC0_2 := Aside0.mk hc0_2;clear hr0_2 hc0_2;have HB := Aside0.mk (Below.refl w.heap.size w);have H : (if a0_0 < 0 then (textpatch_hunkCode_0.j0 k a1 true a0_0 l0_1 l0_2) else (textpatch_hunkCode_0.j0 k a1 (decide (a0_0 > 120)) a0_0 l0_1 l0_2)) = some r := h;clear h;have HC3 := Aside0.mk H;clear H
  go_enter Try.func43, Try.ntmps43
  go_upto_region 1 with (first|((with_reducible refine gate_dst (N := 2) rfl ?_);(try (refine gate_guard (by rfl) ?_;dsimp only));refine bE 2 #[.int .i64 a0_0, .slice A0_1 l0_1.length c0_1, .slice A0_2 l0_2.length c0_2] 47 ?_;intro gb107 hg w4 hbox hb;have BK107 := Aside0.mk (hbox);have GW107 := gBe HB hg;have GE107 := gBe HB hg;replace HB := sBe HB hb;clear hb hbox hg))
  (try simp only [Act.put, sA, sB, sC])
  go_cut [5] (fun v5 wc => ∃ (kq : Nat) (x5_2 : Bool), v5 = .bool x5_2 ∧ Aside0 (textpatch_hunkCode_0.j0 kq a1 x5_2 a0_0 l0_1 l0_2 = some r) ∧ Aside0 (kq ≤ k) ∧ Aside0 (wc.heap[gb107]? = some (.cells #[.int .i64 a0_0, (.slice A0_1 l0_1.length c0_1), (.slice A0_2 l0_2.length c0_2)] 47 (0, 0))) ∧ Aside0 (Below w.heap.size w wc))
  case first =>
    have H := HC3.out;clear HC3
    by_cases c5 : a0_0 < 0
    · rw [if_pos c5] at H;have c5b0 : decide (a0_0 < 0) = true := decide_eq_true c5;clear c5
      (first|rw [c5b0]|(simp only [i64_w, i32_w];rw [c5b0])|skip)
      have H' := Aside0.mk H;clear H;have hcz6_0 := hC BK107 0 (.int .i64 a0_0);have hcz6_1 := hC BK107 1 (.slice A0_1 l0_1.length c0_1);have hcz6_2 := hC BK107 2 (.slice A0_2 l0_2.length c0_2);have hfz6_0 := blk_frozen BK107.out 0;have hfz6_1 := blk_frozen BK107.out 1;have hfz6_2 := blk_frozen BK107.out 2
      go_wp2
      go_meet
      case rel => exact ⟨_, (true), (by first|rfl|(simp only [i64_w, i32_w];done)|(simp only [i64_w, i32_w];rfl)|(simp;done)|(simp [*];done)), H', ⟨by first|omega|exact Nat.le_refl _⟩, ⟨kK⟩, ⟨eB⟩⟩
    · rw [if_neg c5] at H;have c5b0 : decide (a0_0 < 0) = false := decide_eq_false c5;clear c5
      (first|rw [c5b0]|(simp only [i64_w, i32_w];rw [c5b0])|skip)
      have H' := Aside0.mk H;clear H;have hcz7_0 := hC BK107 0 (.int .i64 a0_0);have hcz7_1 := hC BK107 1 (.slice A0_1 l0_1.length c0_1);have hcz7_2 := hC BK107 2 (.slice A0_2 l0_2.length c0_2);have hfz7_0 := blk_frozen BK107.out 0;have hfz7_1 := blk_frozen BK107.out 1;have hfz7_2 := blk_frozen BK107.out 2
      go_wp2
      go_meet
      case rel => exact ⟨_, (decide (a0_0 > 120)), (by first|rfl|(simp only [i64_w, i32_w];done)|(simp only [i64_w, i32_w];rfl)|(simp;done)|(simp [*];done)), H', ⟨by first|omega|exact Nat.le_refl _⟩, ⟨kK⟩, ⟨eB⟩⟩
  case rest =>
    clear HC3
    try clear p2
    try clear c4
    try clear c5
    try clear c5b0
    try clear hcz6_0
    try clear hcz6_1
    try clear hcz6_2
    try clear hcz7_0
    try clear hcz7_1
    try clear hcz7_2
    try clear hfz6_0
    try clear hfz6_1
    try clear hfz6_2
    try clear hfz7_0
    try clear hfz7_1
    try clear hfz7_2
    obtain ⟨kq, x5_2, rfl, HA, HJ2, BK107, HB⟩ := hcut
    cases kq with
    | zero => exact absurd HA.out (by simp [textpatch_hunkCode_0.j0])
    | succ kj2 =>
      have H := HA.out;clear HA;simp only [textpatch_hunkCode_0.j0] at H
      by_cases c8 : x5_2 = true
      · subst c8;have H1 : (some 3) = some r := (by rw [if_pos rfl] at H;exact H);clear H;have H := H1;clear H1;obtain rfl := Option.some.inj H
        go_wp2
        go_ret
        exact ⟨rW, eB⟩
      · replace c8 := Bool.eq_false_iff.mpr c8;subst c8;have H1 : ((lines_Code.f l0_1).bind fun t108 => (if t108 = 0 then ((lines_Code.f l0_2).bind fun t109 => (if t109 = 0 then (if (l0_1.length : Int) = 0 then (if (l0_2.length : Int) = 0 then (textpatch_hunkCode_0.j1 kj2 true a0_0 l0_1 l0_2) else (textpatch_hunkCode_0.j1 kj2 (decide (a0_0 < a1)) a0_0 l0_1 l0_2)) else (textpatch_hunkCode_0.j1 kj2 (decide (a0_0 < a1)) a0_0 l0_1 l0_2)) else ((lines_Code.f l0_2).bind fun t111 => (some t111)))) else ((lines_Code.f l0_1).bind fun t112 => (some t112)))) = some r := (by rw [if_neg (show ¬ (false = true) by decide)] at H;exact H);clear H;have H := H1;clear H1;replace H := Option.bind_eq_some_iff.mp H;obtain ⟨t108, A90, H⟩ := H;replace H : (if t108 = 0 then ((lines_Code.f l0_2).bind fun t109 => (if t109 = 0 then (if (l0_1.length : Int) = 0 then (if (l0_2.length : Int) = 0 then (textpatch_hunkCode_0.j1 kj2 true a0_0 l0_1 l0_2) else (textpatch_hunkCode_0.j1 kj2 (decide (a0_0 < a1)) a0_0 l0_1 l0_2)) else (textpatch_hunkCode_0.j1 kj2 (decide (a0_0 < a1)) a0_0 l0_1 l0_2)) else ((lines_Code.f l0_2).bind fun t111 => (some t111)))) else ((lines_Code.f l0_1).bind fun t112 => (some t112))) = some r := H;have A9 := Aside0.mk A90;clear A90
        by_cases c10 : t108 = 0
        · rw [if_pos c10] at H;have c10b0 : (t108 == 0) = true := beq_iff_eq.mpr c10;have c10b1 : (t108 != 0) = false := bne_eq_false_iff_eq.mpr c10;clear c10;replace H := Option.bind_eq_some_iff.mp H;obtain ⟨t109, A110, H⟩ := H;replace H : (if t109 = 0 then (if (l0_1.length : Int) = 0 then (if (l0_2.length : Int) = 0 then (textpatch_hunkCode_0.j1 kj2 true a0_0 l0_1 l0_2) else (textpatch_hunkCode_0.j1 kj2 (decide (a0_0 < a1)) a0_0 l0_1 l0_2)) else (textpatch_hunkCode_0.j1 kj2 (decide (a0_0 < a1)) a0_0 l0_1 l0_2)) else ((lines_Code.f l0_2).bind fun t111 => (some t111))) = some r := H;have A11 := Aside0.mk A110;clear A110
          by_cases c12 : t109 = 0
          · rw [if_pos c12] at H;have c12b0 : (t109 == 0) = true := beq_iff_eq.mpr c12;have c12b1 : (t109 != 0) = false := bne_eq_false_iff_eq.mpr c12;clear c12;have HC13 := Aside0.mk H;clear H;have hcz14_0 : wc.cell? ⟨gb107, 0, none⟩ = some (.int .i64 a0_0) := (blk_cell BK107.out 0).trans rfl;have hcz14_1 : wc.cell? ⟨gb107, 1, none⟩ = some (.slice A0_1 l0_1.length c0_1) := (blk_cell BK107.out 1).trans rfl;have hcz14_2 : wc.cell? ⟨gb107, 2, none⟩ = some (.slice A0_2 l0_2.length c0_2) := (blk_cell BK107.out 2).trans rfl;have hfz14_0 := blk_frozen BK107.out 0;have hfz14_1 := blk_frozen BK107.out 1;have hfz14_2 := blk_frozen BK107.out 2
            go_upto_region 7 with (first|((with_reducible refine gate_callee (f := 32) rfl ?_);refine goesL_ (some 17) rfl rfl Try.func32 (by kernel_rfl) rfl #[.slice A0_1 l0_1.length c0_1] rfl mA ?_;(with_reducible refine (lines_Code.calls _ _ l0_1 t108 _ ?side1 ?side2 A9.out).mono ?_);(case side1 => exact cBe HR0_1);(case side2 => exact HC0_1.out);rintro e w15 ⟨rfl, hb⟩;refine ⟨_, rfl, ?_⟩;replace BK107 := lJ BK107 hb;replace HB := sBe HB hb;(try clear hb);have hcz16_0 := hC BK107 0 (.int .i64 a0_0);have hcz16_1 := hC BK107 1 (.slice A0_1 l0_1.length c0_1);have hcz16_2 := hC BK107 2 (.slice A0_2 l0_2.length c0_2);have hfz16_0 := blk_frozen BK107.out 0;have hfz16_1 := blk_frozen BK107.out 1;have hfz16_2 := blk_frozen BK107.out 2)|((with_reducible refine gate_callee (f := 32) rfl ?_);refine goesL_ (some 25) rfl rfl Try.func32 (by kernel_rfl) rfl #[.slice A0_2 l0_2.length c0_2] rfl mA ?_;(with_reducible refine (lines_Code.calls _ _ l0_2 t109 _ ?side1 ?side2 A11.out).mono ?_);(case side1 => exact cBe HR0_2);(case side2 => exact HC0_2.out);rintro e w17 ⟨rfl, hb⟩;refine ⟨_, rfl, ?_⟩;replace BK107 := lJ BK107 hb;replace HB := sBe HB hb;(try clear hb)))
            (try simp only [Act.put, sA, sB, sC])
            go_cut [30] (fun v30 wc => ∃ (kq : Nat) (x30_12 : Bool), v30 = .bool x30_12 ∧ Aside0 (textpatch_hunkCode_0.j1 kq x30_12 a0_0 l0_1 l0_2 = some r) ∧ Aside0 (kq ≤ kj2) ∧ Aside0 (wc.heap[gb107]? = some (.cells #[.int .i64 a0_0, (.slice A0_1 l0_1.length c0_1), (.slice A0_2 l0_2.length c0_2)] 47 (0, 0))) ∧ Aside0 (Below w.heap.size w wc))
            case first =>
              have H := HC13.out;clear HC13
              by_cases c18 : (l0_1.length : Int) = 0
              · rw [if_pos c18] at H;have c18b0 : ((l0_1.length : Int) == 0) = true := beq_iff_eq.mpr c18;have c18b1 : ((l0_1.length : Int) != 0) = false := bne_eq_false_iff_eq.mpr c18;clear c18
                (first|rw [c18b0]|(simp only [i64_w, i32_w];rw [c18b0])|skip)
                have hcz20_0 := hC BK107 0 (.int .i64 a0_0);have hcz20_1 := hC BK107 1 (.slice A0_1 l0_1.length c0_1);have hcz20_2 := hC BK107 2 (.slice A0_2 l0_2.length c0_2);have hfz20_0 := blk_frozen BK107.out 0;have hfz20_1 := blk_frozen BK107.out 1;have hfz20_2 := blk_frozen BK107.out 2
                by_cases c19 : (l0_2.length : Int) = 0
                · rw [if_pos c19] at H;have c19b0 : ((l0_2.length : Int) == 0) = true := beq_iff_eq.mpr c19;have c19b1 : ((l0_2.length : Int) != 0) = false := bne_eq_false_iff_eq.mpr c19;clear c19;have H' := Aside0.mk H;clear H
                  go_wp2
                  go_meet
                  case rel => exact ⟨_, (true), (by first|rfl|(simp only [i64_w, i32_w];done)|(simp only [i64_w, i32_w];rfl)|(simp;done)|(simp [*];done)), H', ⟨by have := HJ2.out;first|omega|exact Nat.le_refl _⟩, ⟨kK⟩, ⟨eB⟩⟩
                · rw [if_neg c19] at H;have c19b0 : ((l0_2.length : Int) == 0) = false := beq_eq_false_iff_ne.mpr c19;have c19b1 : ((l0_2.length : Int) != 0) = true := bne_iff_ne.mpr c19;have c19b2 : ¬ (l0_2 = []) := (fun h_ => c19 (by rw [h_];rfl));have H' := Aside0.mk H;clear H
                  go_wp2
                  go_meet
                  case rel => exact ⟨_, (decide (a0_0 < a1)), (by first|rfl|(simp only [i64_w, i32_w];done)|(simp only [i64_w, i32_w];rfl)|(simp;done)|(simp [*];done)), H', ⟨by have := HJ2.out;first|omega|exact Nat.le_refl _⟩, ⟨kK⟩, ⟨eB⟩⟩
              · rw [if_neg c18] at H;have c18b0 : ((l0_1.length : Int) == 0) = false := beq_eq_false_iff_ne.mpr c18;have c18b1 : ((l0_1.length : Int) != 0) = true := bne_iff_ne.mpr c18;have c18b2 : ¬ (l0_1 = []) := (fun h_ => c18 (by rw [h_];rfl))
                (first|rw [c18b0]|(simp only [i64_w, i32_w];rw [c18b0])|skip)
                have H' := Aside0.mk H;clear H;have hcz22_0 := hC BK107 0 (.int .i64 a0_0);have hcz22_1 := hC BK107 1 (.slice A0_1 l0_1.length c0_1);have hcz22_2 := hC BK107 2 (.slice A0_2 l0_2.length c0_2);have hfz22_0 := blk_frozen BK107.out 0;have hfz22_1 := blk_frozen BK107.out 1;have hfz22_2 := blk_frozen BK107.out 2
                go_wp2
                go_meet
                case rel => exact ⟨_, (decide (a0_0 < a1)), (by first|rfl|(simp only [i64_w, i32_w];done)|(simp only [i64_w, i32_w];rfl)|(simp;done)|(simp [*];done)), H', ⟨by have := HJ2.out;first|omega|exact Nat.le_refl _⟩, ⟨kK⟩, ⟨eB⟩⟩
            case rest =>
              clear HC13
              try clear c1
              try clear p2
              try clear c3
              try clear c4
              try clear c5
              try clear c5b0
              try clear c8
              try clear c10
              try clear c10b0
              try clear c10b1
              try clear c12
              try clear c12b0
              try clear c12b1
              try clear c18
              try clear c18b0
              try clear c18b1
              try clear c18b2
              try clear c19
              try clear c19b0
              try clear c19b1
              try clear c19b2
              try clear hcz14_0
              try clear hcz14_1
              try clear hcz14_2
              try clear hcz16_0
              try clear hcz16_1
              try clear hcz16_2
              try clear hcz20_0
              try clear hcz20_1
              try clear hcz20_2
              try clear hcz21_0
              try clear hcz21_1
              try clear hcz21_2
              try clear hcz22_0
              try clear hcz22_1
              try clear hcz22_2
              try clear hcz6_0
              try clear hcz6_1
              try clear hcz6_2
              try clear hcz7_0
              try clear hcz7_1
              try clear hcz7_2
              try clear hfz14_0
              try clear hfz14_1
              try clear hfz14_2
              try clear hfz16_0
              try clear hfz16_1
              try clear hfz16_2
              try clear hfz20_0
              try clear hfz20_1
              try clear hfz20_2
              try clear hfz21_0
              try clear hfz21_1
              try clear hfz21_2
              try clear hfz22_0
              try clear hfz22_1
              try clear hfz22_2
              try clear hfz6_0
              try clear hfz6_1
              try clear hfz6_2
              try clear hfz7_0
              try clear hfz7_1
              try clear hfz7_2
              try clear p2
              obtain ⟨kq, x30_12, rfl, HA, HJ12, BK107, HB⟩ := hcut
              cases kq with
              | zero => exact absurd HA.out (by simp [textpatch_hunkCode_0.j1])
              | succ kj12 =>
                have H := HA.out;clear HA;simp only [textpatch_hunkCode_0.j1] at H
                by_cases c23 : x30_12 = true
                · subst c23;have H1 : (some 5) = some r := (by rw [if_pos rfl] at H;exact H);clear H;have H := H1;clear H1;obtain rfl := Option.some.inj H
                  go_wp2
                  go_ret
                  exact ⟨rW, eB⟩
                · replace c23 := Bool.eq_false_iff.mpr c23;subst c23;have H1 : ((textpatch_End.f a0_0 l0_1 l0_2).bind fun t110 => (if t110 > 120 then (some 3) else (some 0))) = some r := (by rw [if_neg (show ¬ (false = true) by decide)] at H;exact H);clear H;have H := H1;clear H1;replace H := Option.bind_eq_some_iff.mp H;obtain ⟨t110, A240, H⟩ := H;replace H : (if t110 > 120 then (some 3) else (some 0)) = some r := H;have A24 := Aside0.mk A240;clear A240;have hcz26_0 : wc.cell? ⟨gb107, 0, none⟩ = some (.int .i64 a0_0) := (blk_cell BK107.out 0).trans rfl;have hcz26_1 : wc.cell? ⟨gb107, 1, none⟩ = some (.slice A0_1 l0_1.length c0_1) := (blk_cell BK107.out 1).trans rfl;have hcz26_2 : wc.cell? ⟨gb107, 2, none⟩ = some (.slice A0_2 l0_2.length c0_2) := (blk_cell BK107.out 2).trans rfl;have hfz26_0 := blk_frozen BK107.out 0;have hfz26_1 := blk_frozen BK107.out 1;have hfz26_2 := blk_frozen BK107.out 2
                  by_cases c25 : t110 > 120
                  · rw [if_pos c25] at H;have c25b0 : decide (120 < t110) = true := decide_eq_true c25;clear c25;obtain rfl := Option.some.inj H
                    go_wp2_with (first|((with_reducible refine gate_callee (f := 33) rfl ?_);refine goesL_ (some 49) rfl rfl Try.func33 (by kernel_rfl) rfl #[.agg #[.int .i64 a0_0, .slice A0_1 l0_1.length c0_1, .slice A0_2 l0_2.length c0_2]] rfl mA ?_;(with_reducible refine (textpatch_End.calls a0_0 _ _ l0_1 _ _ l0_2 t110 _ ?side1 ?side2 ?side3 ?side4 A24.out).mono ?_);(case side1 => exact cBe HR0_1);(case side2 => exact HC0_1.out);(case side3 => exact cBe HR0_2);(case side4 => exact HC0_2.out);rintro e w27 ⟨rfl, hb⟩;refine ⟨_, rfl, ?_⟩;replace BK107 := lJ BK107 hb;replace HB := sBe HB hb;(try clear hb)))
                    go_ret
                    exact ⟨rW, eB⟩
                  · rw [if_neg c25] at H;have c25b0 : decide (120 < t110) = false := decide_eq_false c25;clear c25;obtain rfl := Option.some.inj H
                    go_wp2_with (first|((with_reducible refine gate_callee (f := 33) rfl ?_);refine goesL_ (some 49) rfl rfl Try.func33 (by kernel_rfl) rfl #[.agg #[.int .i64 a0_0, .slice A0_1 l0_1.length c0_1, .slice A0_2 l0_2.length c0_2]] rfl mA ?_;(with_reducible refine (textpatch_End.calls a0_0 _ _ l0_1 _ _ l0_2 t110 _ ?side1 ?side2 ?side3 ?side4 A24.out).mono ?_);(case side1 => exact cBe HR0_1);(case side2 => exact HC0_1.out);(case side3 => exact cBe HR0_2);(case side4 => exact HC0_2.out);rintro e w27 ⟨rfl, hb⟩;refine ⟨_, rfl, ?_⟩;replace BK107 := lJ BK107 hb;replace HB := sBe HB hb;(try clear hb)))
                    go_ret
                    exact ⟨rW, eB⟩
          · rw [if_neg c12] at H;have c12b0 : (t109 == 0) = false := beq_eq_false_iff_ne.mpr c12;have c12b1 : (t109 != 0) = true := bne_iff_ne.mpr c12;replace H := Option.bind_eq_some_iff.mp H;obtain ⟨t111, A300, H⟩ := H;replace H : (some t111) = some r := H;have A30 := Aside0.mk A300;clear A300;obtain rfl := Option.some.inj H;have hcz31_0 : wc.cell? ⟨gb107, 0, none⟩ = some (.int .i64 a0_0) := (blk_cell BK107.out 0).trans rfl;have hcz31_1 : wc.cell? ⟨gb107, 1, none⟩ = some (.slice A0_1 l0_1.length c0_1) := (blk_cell BK107.out 1).trans rfl;have hcz31_2 : wc.cell? ⟨gb107, 2, none⟩ = some (.slice A0_2 l0_2.length c0_2) := (blk_cell BK107.out 2).trans rfl;have hfz31_0 := blk_frozen BK107.out 0;have hfz31_1 := blk_frozen BK107.out 1;have hfz31_2 := blk_frozen BK107.out 2
            go_wp2_with (first|((with_reducible refine gate_callee (f := 32) rfl ?_);refine goesL_ (some 17) rfl rfl Try.func32 (by kernel_rfl) rfl #[.slice A0_1 l0_1.length c0_1] rfl mA ?_;(with_reducible refine (lines_Code.calls _ _ l0_1 t108 _ ?side1 ?side2 A9.out).mono ?_);(case side1 => exact cBe HR0_1);(case side2 => exact HC0_1.out);rintro e w32 ⟨rfl, hb⟩;refine ⟨_, rfl, ?_⟩;replace BK107 := lJ BK107 hb;replace HB := sBe HB hb;(try clear hb);have hcz33_0 := hC BK107 0 (.int .i64 a0_0);have hcz33_1 := hC BK107 1 (.slice A0_1 l0_1.length c0_1);have hcz33_2 := hC BK107 2 (.slice A0_2 l0_2.length c0_2);have hfz33_0 := blk_frozen BK107.out 0;have hfz33_1 := blk_frozen BK107.out 1;have hfz33_2 := blk_frozen BK107.out 2)|((with_reducible refine gate_callee (f := 32) rfl ?_);refine goesL_ (some 25) rfl rfl Try.func32 (by kernel_rfl) rfl #[.slice A0_2 l0_2.length c0_2] rfl mA ?_;(with_reducible refine (lines_Code.calls _ _ l0_2 t109 _ ?side1 ?side2 A11.out).mono ?_);(case side1 => exact cBe HR0_2);(case side2 => exact HC0_2.out);rintro e w34 ⟨rfl, hb⟩;refine ⟨_, rfl, ?_⟩;replace BK107 := lJ BK107 hb;replace HB := sBe HB hb;(try clear hb);have hcz35_0 := hC BK107 0 (.int .i64 a0_0);have hcz35_1 := hC BK107 1 (.slice A0_1 l0_1.length c0_1);have hcz35_2 := hC BK107 2 (.slice A0_2 l0_2.length c0_2);have hfz35_0 := blk_frozen BK107.out 0;have hfz35_1 := blk_frozen BK107.out 1;have hfz35_2 := blk_frozen BK107.out 2)|((with_reducible refine gate_callee (f := 32) rfl ?_);refine goesL_ (some 29) rfl rfl Try.func32 (by kernel_rfl) rfl #[.slice A0_2 l0_2.length c0_2] rfl mA ?_;(with_reducible refine (lines_Code.calls _ _ l0_2 t111 _ ?side1 ?side2 A30.out).mono ?_);(case side1 => exact cBe HR0_2);(case side2 => exact HC0_2.out);rintro e w36 ⟨rfl, hb⟩;refine ⟨_, rfl, ?_⟩;replace BK107 := lJ BK107 hb;replace HB := sBe HB hb;(try clear hb)))
            go_ret
            exact ⟨rW, eB⟩
        · rw [if_neg c10] at H;have c10b0 : (t108 == 0) = false := beq_eq_false_iff_ne.mpr c10;have c10b1 : (t108 != 0) = true := bne_iff_ne.mpr c10;replace H := Option.bind_eq_some_iff.mp H;obtain ⟨t112, A370, H⟩ := H;replace H : (some t112) = some r := H;have A37 := Aside0.mk A370;clear A370;obtain rfl := Option.some.inj H;have hcz38_0 : wc.cell? ⟨gb107, 0, none⟩ = some (.int .i64 a0_0) := (blk_cell BK107.out 0).trans rfl;have hcz38_1 : wc.cell? ⟨gb107, 1, none⟩ = some (.slice A0_1 l0_1.length c0_1) := (blk_cell BK107.out 1).trans rfl;have hcz38_2 : wc.cell? ⟨gb107, 2, none⟩ = some (.slice A0_2 l0_2.length c0_2) := (blk_cell BK107.out 2).trans rfl;have hfz38_0 := blk_frozen BK107.out 0;have hfz38_1 := blk_frozen BK107.out 1;have hfz38_2 := blk_frozen BK107.out 2
          go_wp2_with (first|((with_reducible refine gate_callee (f := 32) rfl ?_);refine goesL_ (some 17) rfl rfl Try.func32 (by kernel_rfl) rfl #[.slice A0_1 l0_1.length c0_1] rfl mA ?_;(with_reducible refine (lines_Code.calls _ _ l0_1 t108 _ ?side1 ?side2 A9.out).mono ?_);(case side1 => exact cBe HR0_1);(case side2 => exact HC0_1.out);rintro e w39 ⟨rfl, hb⟩;refine ⟨_, rfl, ?_⟩;replace BK107 := lJ BK107 hb;replace HB := sBe HB hb;(try clear hb);have hcz40_0 := hC BK107 0 (.int .i64 a0_0);have hcz40_1 := hC BK107 1 (.slice A0_1 l0_1.length c0_1);have hcz40_2 := hC BK107 2 (.slice A0_2 l0_2.length c0_2);have hfz40_0 := blk_frozen BK107.out 0;have hfz40_1 := blk_frozen BK107.out 1;have hfz40_2 := blk_frozen BK107.out 2)|((with_reducible refine gate_callee (f := 32) rfl ?_);refine goesL_ (some 21) rfl rfl Try.func32 (by kernel_rfl) rfl #[.slice A0_1 l0_1.length c0_1] rfl mA ?_;(with_reducible refine (lines_Code.calls _ _ l0_1 t112 _ ?side1 ?side2 A37.out).mono ?_);(case side1 => exact cBe HR0_1);(case side2 => exact HC0_1.out);rintro e w41 ⟨rfl, hb⟩;refine ⟨_, rfl, ?_⟩;replace BK107 := lJ BK107 hb;replace HB := sBe HB hb;(try clear hb)))
          go_ret
          exact ⟨rW, eB⟩

/-! ### textpatch_hunkCode: function 43 -/
def textpatch_hunkCode.f (a0_0 : Int) (l0_1 : List ByteArray) (l0_2 : List ByteArray) (a1 : Int) : Option (Int) :=  some (hkCode (a0_0, l0_1, l0_2) a1)
theorem textpatch_hunkCode.calls (a0_0 : Int) (A0_1 : Option Addr) (c0_1 : Nat) (l0_1 : List ByteArray) (A0_2 : Option Addr) (c0_2 : Nat) (l0_2 : List ByteArray) (a1 : Int) (r : Int) (w : World) (hr0_1 : Kd.C Kd.string w A0_1 l0_1.length l0_1) (hc0_1 : l0_1.length ≤ c0_1) (hr0_2 : Kd.C Kd.string w A0_2 l0_2.length l0_2) (hc0_2 : l0_2.length ≤ c0_2) (h : textpatch_hunkCode.f a0_0 l0_1 l0_2 a1 = some r) :
    Calls Try.prog 43 #[.agg #[.int .i64 a0_0, .slice A0_1 l0_1.length c0_1, .slice A0_2 l0_2.length c0_2], .int .i64 a1] w fun e w' => e = .returned (.int .i64 r) ∧ Below w.heap.size w w' := by
  have h' : textpatch_hunkCode_0.f 2 a0_0 l0_1 l0_2 a1 = some r := by
    rw [← h]
    have hj : ∀ b : Bool, 0 ≤ a0_0 → a0_0 ≤ 120 → l0_1.length ≤ 120 → textpatch_hunkCode_0.j1 1 b a0_0 l0_1 l0_2 = some (if b = true then 5 else if 120 < hkEnd (a0_0, l0_1, l0_2) then 3 else 0) := by
      intro b h0 h1 h2
      simp only [textpatch_hunkCode_0.j1, textpatch_End.f, Option.bind_some]
      rw [w64 (by omega) (by omega)]
      unfold hkEnd
      by_cases c : b = true
      · rw [if_pos c, if_pos c]
      · rw [if_neg c, if_neg c]
        by_cases d : 120 < a0_0 + (l0_1.length : Int)
        · rw [if_pos (by omega), if_pos d]
        · rw [if_neg (by omega), if_neg d]
    unfold textpatch_hunkCode_0.f textpatch_hunkCode.f hkCode
    simp only [textpatch_hunkCode_0.j0, lines_Code.f, Option.bind_some]
    by_cases c1 : a0_0 < 0
    · rw [if_pos c1, if_pos trivial, if_pos (.inl c1)]
    · rw [if_neg c1]
      by_cases c1' : a0_0 > 120
      · rw [decide_eq_true c1', if_pos rfl, if_pos (.inr c1')]
      · rw [decide_eq_false c1', if_neg (by decide), if_neg (show ¬ (a0_0 < 0 ∨ 120 < a0_0) by omega)]
        by_cases c2 : (linesFault l0_1).1 = 0
        · rw [if_pos c2, if_pos c2]
          by_cases c3 : (linesFault l0_2).1 = 0
          · rw [if_pos c3, if_pos c3]
            have hl := (linesFault_ok.1 (linesFault_zero c2)).1
            rw [hj _ (by omega) (by omega) hl, hj _ (by omega) (by omega) hl]
            by_cases e1 : l0_1 = []
            · by_cases e2 : l0_2 = []
              · rw [if_pos (by rw [e1]; rfl), if_pos (by rw [e2]; rfl), if_pos rfl, if_pos (.inl ⟨e1, e2⟩)]
              · have : ¬ ((l0_2.length : Int) = 0) := fun h => e2 (List.eq_nil_of_length_eq_zero (by omega))
                rw [if_pos (by rw [e1]; rfl), if_neg this]
                by_cases e3 : a0_0 < a1
                · rw [decide_eq_true e3, if_pos rfl, if_pos (.inr e3)]
                · rw [decide_eq_false e3, if_neg (by decide), if_neg (show ¬ ((l0_1 = [] ∧ l0_2 = []) ∨ a0_0 < a1) from fun h => h.elim (fun h => e2 h.2) e3)]
            · have : ¬ ((l0_1.length : Int) = 0) := fun h => e1 (List.eq_nil_of_length_eq_zero (by omega))
              rw [if_neg this]
              by_cases e3 : a0_0 < a1
              · rw [decide_eq_true e3, if_pos rfl, if_pos (.inr e3)]
              · rw [decide_eq_false e3, if_neg (by decide), if_neg (show ¬ ((l0_1 = [] ∧ l0_2 = []) ∨ a0_0 < a1) from fun h => h.elim (fun h => e1 h.1) e3)]
          · rw [if_neg c3, if_neg c3]
        · rw [if_neg c2, if_neg c2]
  exact (textpatch_hunkCode_0.calls (2) a0_0 A0_1 c0_1 l0_1 A0_2 c0_2 l0_2 a1 r w hr0_1 hc0_1 hr0_2 hc0_2 (h'))


/-! ### textpatch_Validate_0: function 19 -/
def textpatch_Validate_0.l0 : Nat → Int → List (S47) → Int → Int → Option (Int × Int)
  | 0, _, _, _, _ => none
  | k + 1, x3, x13, x14, x15 => if x15 < x14 then (if 0 ≤ x15 then (if x15 < (x13.length : Int) then ((textpatch_hunkCode.f ((rd_T47 x13 x15).f0) ((rd_T47 x13 x15).f1) ((rd_T47 x13 x15).f2) x3).bind fun t117 => (if t117 = 0 then ((textpatch_End.f ((rd_T47 x13 x15).f0) ((rd_T47 x13 x15).f1) ((rd_T47 x13 x15).f2)).bind fun t118 => (textpatch_Validate_0.l0 k (wrap64 (t118 + 1)) x13 x14 (wrap64 (x15 + 1)))) else (some (t117, x15)))) else (none)) else (none)) else (some (0, 0))
def textpatch_Validate_0.f (k : Nat) (l0_0 : List (S47)) : Option (Int × Int) := if (l0_0.length : Int) > 130 then (some (2, (-1))) else (textpatch_Validate_0.l0 k 0 l0_0 (l0_0.length : Int) 0)
theorem textpatch_Validate_0.mono_l : ∀ k, (∀ y0 y1 y2 y3, LeO (textpatch_Validate_0.l0 k y0 y1 y2 y3) (textpatch_Validate_0.l0 (k + 1) y0 y1 y2 y3))
  | 0 => fun _ _ _ _ r h => by simp [textpatch_Validate_0.l0] at h
  | k + 1 => by
    have ih0 := textpatch_Validate_0.mono_l k
    · intro y0 y1 y2 y3
      unfold textpatch_Validate_0.l0
      repeat' first
      | (with_reducible exact ih0 _ _ _ _)
      | (with_reducible exact LeO.refl _)
      | (with_reducible exact LeO.none _)
      | (with_reducible refine LeO.ite ?_ ?_)
      | (with_reducible refine LeO.bind ?_ (fun _ => ?_))
      | exact ih0 _ _ _ _
      | exact LeO.none _
      | refine LeO.ite ?_ ?_
      | refine LeO.bind ?_ (fun _ => ?_)
theorem textpatch_Validate_0.mono : ∀ a0 k, LeO (textpatch_Validate_0.f k a0) (textpatch_Validate_0.f (k + 1) a0) := by
  intro a0 k
  have ih0 := textpatch_Validate_0.mono_l k
  unfold textpatch_Validate_0.f
  repeat' first
      | (with_reducible exact ih0 _ _ _ _)
      | (with_reducible exact LeO.refl _)
      | (with_reducible exact LeO.none _)
      | (with_reducible refine LeO.ite ?_ ?_)
      | (with_reducible refine LeO.bind ?_ (fun _ => ?_))
      | exact ih0 _ _ _ _
      | exact LeO.none _
      | refine LeO.ite ?_ ?_
      | refine LeO.bind ?_ (fun _ => ?_)
set_option maxHeartbeats 8000000 in
set_option maxRecDepth 100000 in
theorem textpatch_Validate_0.calls (k : Nat) (A0_0 : Option Addr) (c0_0 : Nat) (l0_0 : List (S47)) (r1 : Int) (r2 : Int) (w : World) (hr0_0 : Kd.C k47 w A0_0 l0_0.length l0_0) (hc0_0 : l0_0.length ≤ c0_0) (h : textpatch_Validate_0.f k l0_0 = some (r1, r2)) :
    Calls Try.prog 19 #[.agg #[.slice A0_0 l0_0.length c0_0]] w fun e w' => e = .returned (.agg #[.int .i64 r1, .int .i64 r2]) ∧ Below w.heap.size w w' := by
  have hu24 := Try.underlying24;have hu27 := Try.underlying27;have hu47 := Try.underlying47;have HR0_0 := Aside0.mk hr0_0;have HC0_0 := Aside0.mk hc0_0;clear hr0_0 hc0_0;have HB := Aside0.mk (Below.refl w.heap.size w);have H : (if (l0_0.length : Int) > 130 then (some (2, (-1))) else (textpatch_Validate_0.l0 k 0 l0_0 (l0_0.length : Int) 0)) = some (r1, r2) := h;clear h
  by_cases c2 : (l0_0.length : Int) > 130
  · rw [if_pos c2] at H;have c2b0 : decide (130 < (l0_0.length : Int)) = true := decide_eq_true c2;have c2b1 : decide (130 < l0_0.length) = true := decide_eq_true (by omega);clear c2;simp only [Option.some.injEq, Prod.mk.injEq] at H;obtain ⟨rfl, rfl⟩ := H
    go_enter Try.func19, Try.ntmps19
    go_wp2_with (first|((with_reducible refine gate_dst (N := 1) rfl ?_);refine bE 1 #[.slice A0_0 l0_0.length c0_0] 24 ?_;intro gb113 hg w3 hbox hb;have BK113 := Aside0.mk (hbox);have GW113 := gBe HB hg;have GE113 := gBe HB hg;replace HB := sBe HB hb;clear hb hbox hg)|((with_reducible refine gate_dst (N := 2) rfl ?_);refine bE 2 #[.int .i64 0, .int .i64 0] 27 ?_;intro gb114 hg w4 hbox hb;have BK114 := Aside0.mk (hbox);have GW114 := gBe HB hg;have GE114 := gBe HB hg;have NB113_114 := nL BK113 hg;have NB114_113 := nG BK113 hg;replace BK113 := lJ BK113 hb;replace HB := sBe HB hb;clear hb hbox hg;have hnb5 := eq_false NB113_114.out;have hnc5 := eq_false NB114_113.out;have hcz6_0 := hC BK113 0 (.slice A0_0 l0_0.length c0_0);have hfz6_0 := blk_frozen BK113.out 0;have hcz7_0 := hC BK114 0 (.int .i64 0);have hcz7_1 := hC BK114 1 (.int .i64 0);have hfz7_0 := blk_frozen BK114.out 0;have hfz7_1 := blk_frozen BK114.out 1))
    refine bodyPost_ret (results_cell_row rfl _ _ gb114 27 #[.int .i64 2, .int .i64 (-1)] (0, 0) _ rfl kK Try.underlying27 rfl (by kernel_rfl)) rfl ?_;exact ⟨rW, eB⟩
  · rw [if_neg c2] at H;have c2b0 : decide (130 < (l0_0.length : Int)) = false := decide_eq_false c2;have c2b1 : decide (130 < l0_0.length) = false := decide_eq_false (by omega);clear c2;have H' := Aside0.mk H;clear H
    go_enter Try.func19, Try.ntmps19
    go_wp2_with (first|((with_reducible refine gate_dst (N := 1) rfl ?_);refine bE 1 #[.slice A0_0 l0_0.length c0_0] 24 ?_;intro gb113 hg w8 hbox hb;have BK113 := Aside0.mk (hbox);have GW113 := gBe HB hg;have GE113 := gBe HB hg;replace HB := sBe HB hb;clear hb hbox hg)|((with_reducible refine gate_dst (N := 2) rfl ?_);refine bE 2 #[.int .i64 0, .int .i64 0] 27 ?_;intro gb114 hg w9 hbox hb;have BK114 := Aside0.mk (hbox);have GW114 := gBe HB hg;have GE114 := gBe HB hg;have NB113_114 := nL BK113 hg;have NB114_113 := nG BK113 hg;replace BK113 := lJ BK113 hb;replace HB := sBe HB hb;clear hb hbox hg;have hnb10 := eq_false NB113_114.out;have hnc10 := eq_false NB114_113.out;have hcz11_0 := hC BK113 0 (.slice A0_0 l0_0.length c0_0);have hfz11_0 := blk_frozen BK113.out 0))
    go_loopg [3, 15] k (fun kq v3 v15 w' => ∃ (x3_1 : Int) (x15_1 : Int) (x115000_1 : Int) (x115001_1 : Int), v3 = .int .i64 x3_1 ∧ v15 = .int .i64 x15_1 ∧ Aside0 (textpatch_Validate_0.l0 kq x3_1 l0_0 (l0_0.length : Int) x15_1 = some (r1, r2)) ∧ Aside0 (kq ≤ k) ∧ Bk w' gb113 24 #[(.slice A0_0 l0_0.length c0_0)] ∧ Bk w' gb114 27 #[.int .i64 x115000_1, .int .i64 x115001_1] ∧ Aside0 (Below w.heap.size w w'))
    case atStart => exact ⟨(0), (0), (0), (0), (by first|rfl|(simp only [i64_w, i32_w];done)|(simp only [i64_w, i32_w];rfl)|(simp;done)|(simp [*];done)), (by first|rfl|(simp only [i64_w, i32_w];done)|(simp only [i64_w, i32_w];rfl)|(simp;done)|(simp [*];done)), H', ⟨Nat.le_refl _⟩, ⟨kK⟩, ⟨kK⟩, ⟨eB⟩⟩
    case round =>
      clear H'
      try clear c1
      try clear c2
      try clear c2b0
      try clear c2b1
      try clear p2
      try clear c5
      try clear c10
      try clear hcz11_0
      try clear hcz6_0
      try clear hcz7_0
      try clear hcz7_1
      try clear hfz11_0
      try clear hfz6_0
      try clear hfz7_0
      try clear hfz7_1
      obtain ⟨x3_1, x15_1, x115000_1, x115001_1, rfl, rfl, HA, HK1, BK113, BK114, HB⟩ := hrel
      cases gk with
      | zero => exact absurd HA.out (by simp [textpatch_Validate_0.l0])
      | succ k1 =>
        have H := HA.out;clear HA;simp only [textpatch_Validate_0.l0] at H
        by_cases c12 : x15_1 < (l0_0.length : Int)
        · rw [if_pos c12] at H;have c12b0 : decide (x15_1 < (l0_0.length : Int)) = true := decide_eq_true c12;clear c12
          by_cases c13 : 0 ≤ x15_1
          · rw [if_pos c13] at H;have c13b0 : decide (0 ≤ x15_1) = true := decide_eq_true c13;clear c13
            by_cases c14 : x15_1 < (l0_0.length : Int)
            · rw [if_pos c14] at H;have c14b0 : decide (x15_1 < (l0_0.length : Int)) = true := decide_eq_true c14;clear c14;replace H := Option.bind_eq_some_iff.mp H;obtain ⟨t117, A150, H⟩ := H;replace H : (if t117 = 0 then ((textpatch_End.f ((rd_T47 l0_0 x15_1).f0) ((rd_T47 l0_0 x15_1).f1) ((rd_T47 l0_0 x15_1).f2)).bind fun t118 => (textpatch_Validate_0.l0 k1 (wrap64 (t118 + 1)) l0_0 (l0_0.length : Int) (wrap64 (x15_1 + 1)))) else (some (t117, x15_1))) = some (r1, r2) := H;have A15 := Aside0.mk A150;clear A150;have p115 : 0 ≤ (x15_1 : Int) := dA;have q115 : x15_1 < (l0_0.length : Int) := dA;obtain ⟨ad115, A115_1, c115_1, A115_2, c115_2, e115, hx115_0, hx115_1, hx115_2, hl115_1, hi115_1, hl115_2, hi115_2⟩ := at_T47 HR0_0.out x15_1 p115 q115
              cases e115
              replace hx115_0 := (hX HB hx115_0:);replace hx115_1 := (hX HB hx115_1:);replace hx115_2 := (hX HB hx115_2:);have HR115_1 := Aside0.mk hi115_1;have HC115_1 := Aside0.mk hl115_1;clear hi115_1 hl115_1;have HR115_2 := Aside0.mk hi115_2;have HC115_2 := Aside0.mk hl115_2
              by_cases c16 : t117 = 0
              · rw [if_pos c16] at H;have c16b0 : (t117 == 0) = true := beq_iff_eq.mpr c16;have c16b1 : (t117 != 0) = false := bne_eq_false_iff_eq.mpr c16;clear c16;replace H := Option.bind_eq_some_iff.mp H;obtain ⟨t118, A170, H⟩ := H;replace H : (textpatch_Validate_0.l0 k1 (wrap64 (t118 + 1)) l0_0 (l0_0.length : Int) (wrap64 (x15_1 + 1))) = some (r1, r2) := H;have A17 := Aside0.mk A170;clear A170;have H' := Aside0.mk H;clear H;clear hi115_2 hl115_2;replace p115 := eq_true p115;replace q115 := eq_true q115
                go_wp2_with (first|((with_reducible refine gate_dst (N := 5) rfl ?_);refine bE 5 #[.int .i64 0, .slice none 0 0, .slice none 0 0] 47 ?_;intro gb116 hg w18 hbox hb;have BK116 := Aside0.mk (hbox);have GW116 := gBe HB hg;have GE116 := gBe HB hg;have NB113_116 := nL BK113 hg;have NB116_113 := nG BK113 hg;have NB114_116 := nL BK114 hg;have NB116_114 := nG BK114 hg;replace BK113 := lJ BK113 hb;replace BK114 := lJ BK114 hb;replace HB := sBe HB hb;clear hb hbox hg;have hnb19 := eq_false NB116_113.out;have hnc19 := eq_false NB113_116.out;have hnb20 := eq_false NB116_114.out;have hnc20 := eq_false NB114_116.out;have hcz21_0 := hC BK116 0 (.int .i64 0);have hcz21_1 := hC BK116 1 (.slice none 0 0);have hcz21_2 := hC BK116 2 (.slice none 0 0);have hfz21_0 := blk_frozen BK116.out 0;have hfz21_1 := blk_frozen BK116.out 1;have hfz21_2 := blk_frozen BK116.out 2)|((with_reducible refine gate_callee (f := 43) rfl ?_);refine goesL_ (some 22) rfl rfl Try.func43 (by kernel_rfl) rfl #[.agg #[.int .i64 ((rd_T47 l0_0 x15_1).f0), .slice A115_1 ((rd_T47 l0_0 x15_1).f1).length c115_1, .slice A115_2 ((rd_T47 l0_0 x15_1).f2).length c115_2], .int .i64 x3_1] rfl mA ?_;(with_reducible refine (textpatch_hunkCode.calls ((rd_T47 l0_0 x15_1).f0) _ _ ((rd_T47 l0_0 x15_1).f1) _ _ ((rd_T47 l0_0 x15_1).f2) x3_1 t117 _ ?side1 ?side2 ?side3 ?side4 A15.out).mono ?_);(case side1 => exact Kd.C_below HR115_1.out eB);(case side2 => exact HC115_1.out);(case side3 => exact Kd.C_below HR115_2.out eB);(case side4 => exact HC115_2.out);rintro e w22 ⟨rfl, hb⟩;refine ⟨_, rfl, ?_⟩;replace BK113 := lJ BK113 hb;replace BK114 := lJ BK114 hb;replace BK116 := lK gb116 47 #[.int .i64 ((rd_T47 l0_0 x15_1).f0), .slice A115_1 ((rd_T47 l0_0 x15_1).f1).length c115_1, .slice A115_2 ((rd_T47 l0_0 x15_1).f2).length c115_2] hb;replace HB := sBe HB hb;(try clear hb);have hcz23_0 := hC BK116 0 (.int .i64 ((rd_T47 l0_0 x15_1).f0));have hcz23_1 := hC BK116 1 (.slice A115_1 ((rd_T47 l0_0 x15_1).f1).length c115_1);have hcz23_2 := hC BK116 2 (.slice A115_2 ((rd_T47 l0_0 x15_1).f2).length c115_2);have hfz23_0 := blk_frozen BK116.out 0;have hfz23_1 := blk_frozen BK116.out 1;have hfz23_2 := blk_frozen BK116.out 2)|((with_reducible refine gate_callee (f := 33) rfl ?_);refine goesL_ (some 29) rfl rfl Try.func33 (by kernel_rfl) rfl #[.agg #[.int .i64 ((rd_T47 l0_0 x15_1).f0), .slice A115_1 ((rd_T47 l0_0 x15_1).f1).length c115_1, .slice A115_2 ((rd_T47 l0_0 x15_1).f2).length c115_2]] rfl mA ?_;(with_reducible refine (textpatch_End.calls ((rd_T47 l0_0 x15_1).f0) _ _ ((rd_T47 l0_0 x15_1).f1) _ _ ((rd_T47 l0_0 x15_1).f2) t118 _ ?side1 ?side2 ?side3 ?side4 A17.out).mono ?_);(case side1 => exact cBe HR115_1);(case side2 => exact HC115_1.out);(case side3 => exact cBe HR115_2);(case side4 => exact HC115_2.out);rintro e w24 ⟨rfl, hb⟩;refine ⟨_, rfl, ?_⟩;replace BK113 := lJ BK113 hb;replace BK114 := lJ BK114 hb;replace BK116 := lJ BK116 hb;replace HB := sBe HB hb;(try clear hb)))
                go_roundg k1
                case measure => have := HK1.out;omega
                case rel => exact ⟨(wrap64 (t118 + 1)), (wrap64 (x15_1 + 1)), (x115000_1), (x115001_1), (by first|rfl|(simp only [i64_w, i32_w];done)|(simp only [i64_w, i32_w];rfl)|(simp;done)|(simp [*];done)), (by first|rfl|(simp only [i64_w, i32_w];done)|(simp only [i64_w, i32_w];rfl)|(simp;done)|(simp [*];done)), H', ⟨by have := HK1.out;omega⟩, ⟨kK⟩, ⟨kK⟩, ⟨eB⟩⟩
              · rw [if_neg c16] at H;have c16b0 : (t117 == 0) = false := beq_eq_false_iff_ne.mpr c16;have c16b1 : (t117 != 0) = true := bne_iff_ne.mpr c16;simp only [Option.some.injEq, Prod.mk.injEq] at H;obtain ⟨rfl, rfl⟩ := H;clear hi115_2 hl115_2;replace p115 := eq_true p115;replace q115 := eq_true q115
                go_wp2_with (first|((with_reducible refine gate_dst (N := 5) rfl ?_);refine bE 5 #[.int .i64 0, .slice none 0 0, .slice none 0 0] 47 ?_;intro gb116 hg w25 hbox hb;have BK116 := Aside0.mk (hbox);have GW116 := gBe HB hg;have GE116 := gBe HB hg;have NB113_116 := nL BK113 hg;have NB116_113 := nG BK113 hg;have NB114_116 := nL BK114 hg;have NB116_114 := nG BK114 hg;replace BK113 := lJ BK113 hb;replace BK114 := lJ BK114 hb;replace HB := sBe HB hb;clear hb hbox hg;have hnb26 := eq_false NB116_113.out;have hnc26 := eq_false NB113_116.out;have hnb27 := eq_false NB116_114.out;have hnc27 := eq_false NB114_116.out;have hcz28_0 := hC BK116 0 (.int .i64 0);have hcz28_1 := hC BK116 1 (.slice none 0 0);have hcz28_2 := hC BK116 2 (.slice none 0 0);have hfz28_0 := blk_frozen BK116.out 0;have hfz28_1 := blk_frozen BK116.out 1;have hfz28_2 := blk_frozen BK116.out 2)|((with_reducible refine gate_callee (f := 43) rfl ?_);refine goesL_ (some 22) rfl rfl Try.func43 (by kernel_rfl) rfl #[.agg #[.int .i64 ((rd_T47 l0_0 x15_1).f0), .slice A115_1 ((rd_T47 l0_0 x15_1).f1).length c115_1, .slice A115_2 ((rd_T47 l0_0 x15_1).f2).length c115_2], .int .i64 x3_1] rfl mA ?_;(with_reducible refine (textpatch_hunkCode.calls ((rd_T47 l0_0 x15_1).f0) _ _ ((rd_T47 l0_0 x15_1).f1) _ _ ((rd_T47 l0_0 x15_1).f2) x3_1 t117 _ ?side1 ?side2 ?side3 ?side4 A15.out).mono ?_);(case side1 => exact Kd.C_below HR115_1.out eB);(case side2 => exact HC115_1.out);(case side3 => exact Kd.C_below HR115_2.out eB);(case side4 => exact HC115_2.out);rintro e w29 ⟨rfl, hb⟩;refine ⟨_, rfl, ?_⟩;replace BK113 := lJ BK113 hb;replace BK114 := lJ BK114 hb;replace BK116 := lK gb116 47 #[.int .i64 ((rd_T47 l0_0 x15_1).f0), .slice A115_1 ((rd_T47 l0_0 x15_1).f1).length c115_1, .slice A115_2 ((rd_T47 l0_0 x15_1).f2).length c115_2] hb;replace HB := sBe HB hb;(try clear hb);have hnb30 := eq_false NB114_113.out;have hnc30 := eq_false NB113_114.out;have hcz31_0 := hC BK114 0 (.int .i64 x115000_1);have hcz31_1 := hC BK114 1 (.int .i64 x115001_1);have hfz31_0 := blk_frozen BK114.out 0;have hfz31_1 := blk_frozen BK114.out 1))
                refine bodyPost_ret (results_cell_row rfl _ _ gb114 27 #[.int .i64 t117, .int .i64 x15_1] (0, 0) _ rfl kK Try.underlying27 rfl (by kernel_rfl)) rfl ?_;exact ⟨rW, eB⟩
            · rw [if_neg c14] at H;exact absurd H (by simp)
          · rw [if_neg c13] at H;exact absurd H (by simp)
        · rw [if_neg c12] at H;have c12b0 : decide (x15_1 < (l0_0.length : Int)) = false := decide_eq_false c12;clear c12;simp only [Option.some.injEq, Prod.mk.injEq] at H;obtain ⟨rfl, rfl⟩ := H;have hnb32 := eq_false NB114_113.out;have hnc32 := eq_false NB113_114.out;have hcz33_0 : wr.cell? ⟨gb114, 0, none⟩ = some (.int .i64 x115000_1) := (blk_cell BK114.out 0).trans rfl;have hcz33_1 : wr.cell? ⟨gb114, 1, none⟩ = some (.int .i64 x115001_1) := (blk_cell BK114.out 1).trans rfl;have hfz33_0 := blk_frozen BK114.out 0;have hfz33_1 := blk_frozen BK114.out 1
          go_wp2
          refine bodyPost_ret (results_cell_row rfl _ _ gb114 27 #[.int .i64 0, .int .i64 0] (0, 0) _ rfl kK Try.underlying27 rfl (by kernel_rfl)) rfl ?_;exact ⟨rW, eB⟩

/-! ### textpatch_Validate: function 19 -/
theorem textpatch_Validate_0.loop (xs : List S47) (hl : xs.length ≤ 130) (d : Nat) : ∀ (k i : Nat) (low : Int), i ≤ xs.length → xs.length - i = d → d < k → textpatch_Validate_0.l0 k low xs (xs.length : Int) (i : Int) = some (pvGo ((xs.drop i).map (fun x_ : S47 => ((x_.f0, x_.f1, x_.f2) : Hk))) low (i : Int)) := by
  induction d with
  | zero =>
    intro k i low hi hd hk
    obtain ⟨k, rfl⟩ : ∃ m, k = m + 1 := ⟨k - 1, by omega⟩
    simp only [textpatch_Validate_0.l0]
    rw [if_neg (by omega), List.drop_eq_nil_of_le (by omega)]
    rfl
  | succ d ih =>
    intro k i low hi hd hk
    obtain ⟨k, rfl⟩ : ∃ m, k = m + 1 := ⟨k - 1, by omega⟩
    have hdr : xs.drop i = rd_T47 xs (i : Int) :: xs.drop (i + 1) := rdOf_drop z47 xs i (by omega)
    rw [hdr, List.map_cons]
    simp only [textpatch_Validate_0.l0, textpatch_hunkCode.f, textpatch_End.f, Option.bind_some]
    generalize rd_T47 xs (i : Int) = h
    rw [if_pos (by omega), if_pos (by omega), if_pos (by omega), pvGo]
    by_cases c : hkCode (h.f0, h.f1, h.f2) low = 0
    · have hok := (hkCode_zero _ _).1 c
      have h1 := hok.1
      have h2 := hok.2.1
      have h3 := (linesFault_ok.1 hok.2.2.2.1).1
      simp only at h1 h2 h3
      rw [if_pos c, if_pos c, w64 (n := h.f0 + (h.f1.length : Int)) (by omega) (by omega), w64 (n := h.f0 + (h.f1.length : Int) + 1) (by omega) (by omega), w64 (n := (i : Int) + 1) (by omega) (by omega)]
      have := ih k (i + 1) (hkEnd (h.f0, h.f1, h.f2) + 1) (by omega) (by omega) (by omega)
      rw [show ((i + 1 : Nat) : Int) = (i : Int) + 1 by omega] at this
      exact this
    · rw [if_neg c, if_neg c]
def textpatch_Validate.f (l0_0 : List (S47)) : Option (Int × Int) :=  some (patchFault (l0_0.map (fun x_ : S47 => ((x_.f0, x_.f1, x_.f2) : Hk))))
theorem textpatch_Validate.calls (A0_0 : Option Addr) (c0_0 : Nat) (l0_0 : List (S47)) (r1 : Int) (r2 : Int) (w : World) (hr0_0 : Kd.C k47 w A0_0 l0_0.length l0_0) (hc0_0 : l0_0.length ≤ c0_0) (h : textpatch_Validate.f l0_0 = some (r1, r2)) :
    Calls Try.prog 19 #[.agg #[.slice A0_0 l0_0.length c0_0]] w fun e w' => e = .returned (.agg #[.int .i64 r1, .int .i64 r2]) ∧ Below w.heap.size w w' := by
  have h' : textpatch_Validate_0.f 131 l0_0 = some (r1, r2) := by
    rw [← h]
    unfold textpatch_Validate_0.f textpatch_Validate.f patchFault
    rw [List.length_map]
    by_cases c : 130 < l0_0.length
    · rw [if_pos (by omega), if_pos c]
    · rw [if_neg (by omega), if_neg c]
      exact textpatch_Validate_0.loop l0_0 (by omega) l0_0.length 131 0 0 (by omega) (by omega) (by omega)
  exact (textpatch_Validate_0.calls (131) A0_0 c0_0 l0_0 r1 r2 w hr0_0 hc0_0 (h'))


/-! ### slices_Equal_string_string_0: function 34 -/
def slices_Equal_string_string_0.l0 : Nat → List ByteArray → List ByteArray → Int → Int → Option (Bool)
  | 0, _, _, _, _ => none
  | k + 1, x0, x1, x12, x13 => if x13 < x12 then (if 0 ≤ x13 then (if x13 < (x0.length : Int) then (if x13 < (x1.length : Int) then (if (rdOf ByteArray.empty x0 x13).toList = (rdOf ByteArray.empty x1 x13).toList then (slices_Equal_string_string_0.l0 k x0 x1 x12 (wrap64 (x13 + 1))) else (some false)) else (none)) else (none)) else (none)) else (some true)
def slices_Equal_string_string_0.f (k : Nat) (l0 : List ByteArray) (l1 : List ByteArray) : Option (Bool) := if (l0.length : Int) = (l1.length : Int) then (slices_Equal_string_string_0.l0 k l0 l1 (l0.length : Int) 0) else (some false)
theorem slices_Equal_string_string_0.mono_l : ∀ k, (∀ y0 y1 y2 y3, LeO (slices_Equal_string_string_0.l0 k y0 y1 y2 y3) (slices_Equal_string_string_0.l0 (k + 1) y0 y1 y2 y3))
  | 0 => fun _ _ _ _ r h => by simp [slices_Equal_string_string_0.l0] at h
  | k + 1 => by
    have ih0 := slices_Equal_string_string_0.mono_l k
    · intro y0 y1 y2 y3
      unfold slices_Equal_string_string_0.l0
      repeat' first
      | (with_reducible exact ih0 _ _ _ _)
      | (with_reducible exact LeO.refl _)
      | (with_reducible exact LeO.none _)
      | (with_reducible refine LeO.ite ?_ ?_)
      | (with_reducible refine LeO.bind ?_ (fun _ => ?_))
      | exact ih0 _ _ _ _
      | exact LeO.none _
      | refine LeO.ite ?_ ?_
      | refine LeO.bind ?_ (fun _ => ?_)
theorem slices_Equal_string_string_0.mono : ∀ a0 a1 k, LeO (slices_Equal_string_string_0.f k a0 a1) (slices_Equal_string_string_0.f (k + 1) a0 a1) := by
  intro a0 a1 k
  have ih0 := slices_Equal_string_string_0.mono_l k
  unfold slices_Equal_string_string_0.f
  repeat' first
      | (with_reducible exact ih0 _ _ _ _)
      | (with_reducible exact LeO.refl _)
      | (with_reducible exact LeO.none _)
      | (with_reducible refine LeO.ite ?_ ?_)
      | (with_reducible refine LeO.bind ?_ (fun _ => ?_))
      | exact ih0 _ _ _ _
      | exact LeO.none _
      | refine LeO.ite ?_ ?_
      | refine LeO.bind ?_ (fun _ => ?_)
set_option maxHeartbeats 8000000 in
set_option maxRecDepth 100000 in
theorem slices_Equal_string_string_0.calls (k : Nat) (A0 : Option Addr) (c0 : Nat) (l0 : List ByteArray) (A1 : Option Addr) (c1 : Nat) (l1 : List ByteArray) (r : Bool) (w : World) (hr0 : Kd.C Kd.string w A0 l0.length l0) (hc0 : l0.length ≤ c0) (hr1 : Kd.C Kd.string w A1 l1.length l1) (hc1 : l1.length ≤ c1) (h : slices_Equal_string_string_0.f k l0 l1 = some r) :
    Calls Try.prog 34 #[.slice A0 l0.length c0, .slice A1 l1.length c1] w fun e w' => e = .returned (.bool r) ∧ Drawn0 w w' := by
  have HR0 := Aside0.mk hr0;have HC0 := Aside0.mk hc0;clear hr0 hc0;have HR1 := Aside0.mk hr1;have HC1 := Aside0.mk hc1;clear hr1 hc1;have H : (if (l0.length : Int) = (l1.length : Int) then (slices_Equal_string_string_0.l0 k l0 l1 (l0.length : Int) 0) else (some false)) = some r := h;clear h
  by_cases c3 : (l0.length : Int) = (l1.length : Int)
  · rw [if_pos c3] at H;have c3b0 : ((l0.length : Int) == (l1.length : Int)) = true := beq_iff_eq.mpr c3;have c3b1 : ((l0.length : Int) != (l1.length : Int)) = false := bne_eq_false_iff_eq.mpr c3;have c3b2 : (l0.length == l1.length) = true := (by first|simpa using c3|(simp at c3 ⊢;omega));clear c3;have H' := Aside0.mk H;clear H
    go_enter Try.func34, Try.ntmps34
    go_wp2
    repeat (go_quiet (fail);try go_wp2)
    go_loopg [13] k (fun kq v13 w' => ∃ (x13_1 : Int), v13 = .int .i64 x13_1 ∧ Aside0 (slices_Equal_string_string_0.l0 kq l0 l1 (l0.length : Int) x13_1 = some r) ∧ Aside0 (kq ≤ k) ∧ Drawn0 w w')
    case atStart => exact ⟨(0), (by first|rfl|(simp only [i64_w, i32_w];done)|(simp only [i64_w, i32_w];rfl)|(simp;done)|(simp [*];done)), H', ⟨Nat.le_refl _⟩, by repeat (first|exact Drawn0.refl _|apply Drawn0.step)⟩
    case round =>
      clear H'
      try clear c1
      try clear p2
      try clear c3
      try clear c3b0
      try clear c3b1
      try clear c3b2
      obtain ⟨x13_1, rfl, HA, HK1, ⟨m1, rfl⟩⟩ := hrel
      cases gk with
      | zero => exact absurd HA.out (by simp [slices_Equal_string_string_0.l0])
      | succ k1 =>
        have H := HA.out;clear HA;simp only [slices_Equal_string_string_0.l0] at H
        by_cases c4 : x13_1 < (l0.length : Int)
        · rw [if_pos c4] at H;have c4b0 : decide (x13_1 < (l0.length : Int)) = true := decide_eq_true c4;clear c4
          by_cases c5 : 0 ≤ x13_1
          · rw [if_pos c5] at H;have c5b0 : decide (0 ≤ x13_1) = true := decide_eq_true c5;clear c5
            by_cases c6 : x13_1 < (l0.length : Int)
            · rw [if_pos c6] at H;have c6b0 : decide (x13_1 < (l0.length : Int)) = true := decide_eq_true c6;clear c6
              by_cases c7 : x13_1 < (l1.length : Int)
              · rw [if_pos c7] at H;have c7b0 : decide (x13_1 < (l1.length : Int)) = true := decide_eq_true c7;clear c7
                by_cases c8 : (rdOf ByteArray.empty l0 x13_1).toList = (rdOf ByteArray.empty l1 x13_1).toList
                · rw [if_pos c8] at H;have c8b0 : ((rdOf ByteArray.empty l0 x13_1).toList == (rdOf ByteArray.empty l1 x13_1).toList) = true := beq_iff_eq.mpr c8;have c8b1 : ((rdOf ByteArray.empty l0 x13_1).toList != (rdOf ByteArray.empty l1 x13_1).toList) = false := bne_eq_false_iff_eq.mpr c8;clear c8;have H' := Aside0.mk H;clear H;have p119 : 0 ≤ (x13_1 : Int) := dA;have q119 : x13_1 < (l0.length : Int) := dA;obtain ⟨ad119, e119, hx119_0⟩ := Kd.at_string HR0.out x13_1 p119 q119
                  cases e119
                  replace p119 := eq_true p119;replace q119 := eq_true q119;have p120 : 0 ≤ (x13_1 : Int) := dA;have q120 : x13_1 < (l1.length : Int) := dA;obtain ⟨ad120, e120, hx120_0⟩ := Kd.at_string HR1.out x13_1 p120 q120
                  cases e120
                  replace p120 := eq_true p120;replace q120 := eq_true q120
                  go_wp2
                  repeat (go_quiet (fail);try go_wp2)
                  go_roundg k1
                  case measure => have := HK1.out;omega
                  case rel => exact ⟨(wrap64 (x13_1 + 1)), (by first|rfl|(simp only [i64_w, i32_w];done)|(simp only [i64_w, i32_w];rfl)|(simp;done)|(simp [*];done)), H', ⟨by have := HK1.out;omega⟩, by repeat (first|exact Drawn0.refl _|apply Drawn0.step)⟩
                · rw [if_neg c8] at H;have c8b0 : ((rdOf ByteArray.empty l0 x13_1).toList == (rdOf ByteArray.empty l1 x13_1).toList) = false := beq_eq_false_iff_ne.mpr c8;have c8b1 : ((rdOf ByteArray.empty l0 x13_1).toList != (rdOf ByteArray.empty l1 x13_1).toList) = true := bne_iff_ne.mpr c8;obtain rfl := Option.some.inj H;have p119 : 0 ≤ (x13_1 : Int) := dA;have q119 : x13_1 < (l0.length : Int) := dA;obtain ⟨ad119, e119, hx119_0⟩ := Kd.at_string HR0.out x13_1 p119 q119
                  cases e119
                  replace p119 := eq_true p119;replace q119 := eq_true q119;have p120 : 0 ≤ (x13_1 : Int) := dA;have q120 : x13_1 < (l1.length : Int) := dA;obtain ⟨ad120, e120, hx120_0⟩ := Kd.at_string HR1.out x13_1 p120 q120
                  cases e120
                  replace p120 := eq_true p120;replace q120 := eq_true q120
                  go_wp2
                  repeat (go_quiet (fail);try go_wp2)
                  go_ret
                  exact ⟨by first|rfl|(simp;done)|(simp [*];done), by repeat (first|exact Drawn0.refl _|apply Drawn0.step)⟩
              · rw [if_neg c7] at H;exact absurd H (by simp)
            · rw [if_neg c6] at H;exact absurd H (by simp)
          · rw [if_neg c5] at H;exact absurd H (by simp)
        · rw [if_neg c4] at H;have c4b0 : decide (x13_1 < (l0.length : Int)) = false := decide_eq_false c4;clear c4;obtain rfl := Option.some.inj H
          go_wp2
          repeat (go_quiet (fail);try go_wp2)
          go_ret
          exact ⟨by first|rfl|(simp;done)|(simp [*];done), by repeat (first|exact Drawn0.refl _|apply Drawn0.step)⟩
  · rw [if_neg c3] at H;have c3b0 : ((l0.length : Int) == (l1.length : Int)) = false := beq_eq_false_iff_ne.mpr c3;have c3b1 : ((l0.length : Int) != (l1.length : Int)) = true := bne_iff_ne.mpr c3;have c3b2 : (l0.length == l1.length) = false := (by first|simpa using c3|(simp at c3 ⊢;omega));obtain rfl := Option.some.inj H
    go_enter Try.func34, Try.ntmps34
    go_wp2
    repeat (go_quiet (fail);try go_wp2)
    go_ret
    exact ⟨by first|rfl|(simp;done)|(simp [*];done), by repeat (first|exact Drawn0.refl _|apply Drawn0.step)⟩

/-! ### slices_Equal_string_string: function 34 -/
theorem slices_Equal_string_string_0.loop (a b : List ByteArray) (hl : a.length = b.length) (hm : a.length ≤ 9223372036854775807) (d : Nat) : ∀ (k i : Nat), i ≤ a.length → a.length - i = d → d < k →
    slices_Equal_string_string_0.l0 k a b (a.length : Int) (i : Int) = some (decide (a.drop i = b.drop i)) := by
  induction d with
  | zero =>
    intro k i hi hd hk
    obtain ⟨k, rfl⟩ : ∃ m, k = m + 1 := ⟨k - 1, by omega⟩
    simp only [slices_Equal_string_string_0.l0]
    rw [if_neg (by omega), List.drop_eq_nil_of_le (by omega), List.drop_eq_nil_of_le (by omega)]
    rfl
  | succ d ih =>
    intro k i hi hd hk
    obtain ⟨k, rfl⟩ : ∃ m, k = m + 1 := ⟨k - 1, by omega⟩
    rw [rdOf_drop ByteArray.empty a i (by omega), rdOf_drop ByteArray.empty b i (by omega)]
    simp only [slices_Equal_string_string_0.l0]
    rw [if_pos (by omega), if_pos (by omega), if_pos (by omega), if_pos (by omega)]
    by_cases e : rdOf ByteArray.empty a (i : Int) = rdOf ByteArray.empty b (i : Int)
    · rw [if_pos (toList_inj.mpr e), w64 (by omega) (by omega)]
      have := ih k (i + 1) (by omega) (by omega) (by omega)
      rw [show ((i + 1 : Nat) : Int) = (i : Int) + 1 by omega] at this
      rw [this, e]
      simp
    · rw [if_neg (fun h => e (toList_inj.mp h))]
      simp [e]
def slices_Equal_string_string.f (l0 : List ByteArray) (l1 : List ByteArray) : Option (Bool) :=  some (decide (l0 = l1))
theorem slices_Equal_string_string.calls (A0 : Option Addr) (c0 : Nat) (l0 : List ByteArray) (A1 : Option Addr) (c1 : Nat) (l1 : List ByteArray) (r : Bool) (w : World) (hr0 : Kd.C Kd.string w A0 l0.length l0) (hc0 : l0.length ≤ c0) (hr1 : Kd.C Kd.string w A1 l1.length l1) (hc1 : l1.length ≤ c1) (h : slices_Equal_string_string.f l0 l1 = some r) :
    Calls Try.prog 34 #[.slice A0 l0.length c0, .slice A1 l1.length c1] w fun e w' => e = .returned (.bool r) ∧ Drawn0 w w' := by
  have hm : l0.length ≤ 9223372036854775807 := hr0.2.1
  have h' : slices_Equal_string_string_0.f (l0.length + 1) l0 l1 = some r := by
    rw [← h]
    unfold slices_Equal_string_string_0.f slices_Equal_string_string.f
    by_cases c : l0.length = l1.length
    · rw [if_pos (by omega)]
      have := slices_Equal_string_string_0.loop l0 l1 c hm l0.length (l0.length + 1) 0 (by omega) (by omega) (by omega)
      simpa using this
    · rw [if_neg (by omega)]
      have : ¬ l0 = l1 := fun e => c (by rw [e])
      simp [this]
  exact (slices_Equal_string_string_0.calls (l0.length + 1) A0 c0 l0 A1 c1 l1 r w hr0 hc0 hr1 hc1 (h'))


end Go.Proofs.Ytdnnkhogpobjbaa.PQ
