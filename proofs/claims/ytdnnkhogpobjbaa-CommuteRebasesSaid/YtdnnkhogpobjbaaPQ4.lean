/- Printed by a program of this session out of the translation: Lean functions for Go functions, and proofs that the Go functions answer the same. -/
import Derived.Test.YtdnnkhogpobjbaaPQ0
import Derived.Test.YtdnnkhogpobjbaaPQ2
import Derived.Test.YtdnnkhogpobjbaaPk2
namespace Go.Proofs.Ytdnnkhogpobjbaa.PQ
open Go.RowKit Go.Proofs.Ytdnnkhogpobjbaa.Pre Go.Proofs.YtdnnkhogpobjbaaW.PrintWords Go.Proofs.YtdnnkhogpobjbaaW.PrintLast Go.Proofs.YtdnnkhogpobjbaaW.PrintMore
attribute [local go_sem] max2_int min2_int max_two min_two max_three min_three max_four min_four   -- for this text's walks alone
set_option linter.unusedVariables false
set_option linter.unusedSimpArgs false

/-! ### commute_olds: function 53 -/
def commute_olds.l0 : Nat → List (S78) → List (S47) → Int → Int → Option ((List (S78)))
  | 0, _, _, _, _ => none
  | k + 1, x3, x7, x8, x9 => if x9 < x8 then (if 0 ≤ x9 then (if x9 < (x7.length : Int) then ((textpatch_End.f ((rd_T47 x7 x9).f0) ((rd_T47 x7 x9).f1) ((rd_T47 x7 x9).f2)).bind fun t187 => (if x3.length < 8796093022208 then (commute_olds.l0 k (x3 ++ [(⟨(rd_T47 x7 x9).f0, t187⟩ : S78)]) x7 x8 (wrap64 (x9 + 1))) else (none))) else (none)) else (none)) else (some x3)
def commute_olds.f (k : Nat) (l0_0 : List (S47)) : Option ((List (S78))) := commute_olds.l0 k ([] : List (S78)) l0_0 (l0_0.length : Int) 0
theorem commute_olds.mono_l : ∀ k, (∀ y0 y1 y2 y3, LeO (commute_olds.l0 k y0 y1 y2 y3) (commute_olds.l0 (k + 1) y0 y1 y2 y3))
  | 0 => fun _ _ _ _ r h => by simp [commute_olds.l0] at h
  | k + 1 => by
    have ih0 := commute_olds.mono_l k
    · intro y0 y1 y2 y3
      unfold commute_olds.l0
      repeat' first
      | (with_reducible exact ih0 _ _ _ _)
      | (with_reducible exact LeO.refl _)
      | (with_reducible exact LeO.none _)
      | (with_reducible refine LeO.ite ?_ ?_)
      | (with_reducible refine LeO.bind ?_ (fun _ => ?_))
      | exact ih0 _ _ _ _
      | exact LeO.none _
      | refine LeO.ite ?_ ?_
      | refine LeO.bind ?_ (fun _ => ?_)
theorem commute_olds.mono : ∀ a0 k, LeO (commute_olds.f k a0) (commute_olds.f (k + 1) a0) := by
  intro a0 k
  have ih0 := commute_olds.mono_l k
  unfold commute_olds.f
  repeat' first
      | (with_reducible exact ih0 _ _ _ _)
      | (with_reducible exact LeO.refl _)
      | (with_reducible exact LeO.none _)
      | (with_reducible refine LeO.ite ?_ ?_)
      | (with_reducible refine LeO.bind ?_ (fun _ => ?_))
      | exact ih0 _ _ _ _
      | exact LeO.none _
      | refine LeO.ite ?_ ?_
      | refine LeO.bind ?_ (fun _ => ?_)
def commute_olds.T5 : Bool × List (List Nat × List Nat) := (true, [([], []), ([], []), ([1], [1]), ([], []), ([3], [3]), ([2, 4], [2, 4]), ([5], [5]), ([0, 6, 4], [0, 6]), ([7, 7, 0, 1, 2, 3, 4, 5, 6, 7], [0, 7])])
def commute_olds.B5 : List Nat := [0, 0, 2, 0, 8, 30, 62, 127, 255]
theorem commute_olds.tab5 : rtab .any (opsOf Try.f53 5) = commute_olds.T5 := by kernel_rfl
theorem commute_olds.bits5 : waitsOk commute_olds.T5.2 commute_olds.B5 = true := by kernel_rfl
set_option maxHeartbeats 8000000 in
set_option maxRecDepth 100000 in
theorem commute_olds.calls (k : Nat) (A0_0 : Option Addr) (c0_0 : Nat) (l0_0 : List (S47)) (r : List (S78)) (w : World) (hr0_0 : Kd.C k47 w A0_0 l0_0.length l0_0) (hc0_0 : l0_0.length ≤ c0_0) (h : commute_olds.f k l0_0 = some r) :
    Calls Try.prog 53 #[.agg #[.slice A0_0 l0_0.length c0_0]] w fun e w' => ∃ v0_ : Value, e = .returned (v0_) ∧ Kd.R k78 78 w' w.heap.size (fun _ => True) v0_ r ∧ Below w.heap.size w w' := by
  have hu24 := Try.underlying24;have hu47 := Try.underlying47;have hu78 := Try.underlying78;have HR0_0 := Aside0.mk hr0_0;have HC0_0 := Aside0.mk hc0_0;clear hr0_0 hc0_0;have HB := Aside0.mk (Below.refl w.heap.size w);have H : (commute_olds.l0 k ([] : List (S78)) l0_0 (l0_0.length : Int) 0) = some r := h;clear h;have H' := Aside0.mk H;clear H
  go_enter Try.func53, Try.ntmps53
  go_wp2_with (first|((with_reducible refine gate_dst (N := 1) rfl ?_);refine bE 1 #[.slice A0_0 l0_0.length c0_0] 24 ?_;intro gb184 hg w2 hbox hb;have BK184 := Aside0.mk (hbox);have GW184 := gBe HB hg;have GE184 := gBe HB hg;replace HB := sBe HB hb;clear hb hbox hg;have hcz3_0 := hC BK184 0 (.slice A0_0 l0_0.length c0_0);have hfz3_0 := blk_frozen BK184.out 0))
  go_loopg [3, 9] k (fun kq v3 v9 w' => ∃ (x3_1 : List (S78)) (x9_1 : Int), v9 = .int .i64 x9_1 ∧ Aside0 (commute_olds.l0 kq x3_1 l0_0 (l0_0.length : Int) x9_1 = some r) ∧ Aside0 (kq ≤ k) ∧ Aside0 (Kd.R k78 78 w' w.heap.size (fun _ => True) v3 x3_1) ∧ Bk w' gb184 24 #[(.slice A0_0 l0_0.length c0_0)] ∧ Aside0 (Below w.heap.size w w'))
  case atStart => exact ⟨(([] : List (S78))), (0), (by first|rfl|(simp only [i64_w, i32_w];done)|(simp only [i64_w, i32_w];rfl)|(simp;done)|(simp [*];done)), H', ⟨Nat.le_refl _⟩, ⟨by first|exact Kd.R_nil _ _ _ _ _|exact Kd.N_nil _ _ _ _ _|exact Kd.V_nil _ _ _ _ _|exact Kd.Q_nil _ _ _ _ _|exact Kd.S_nil _ _ _ _ _⟩, ⟨kK⟩, ⟨eB⟩⟩
  case round =>
    clear H'
    try clear p2
    try clear hcz3_0
    try clear hfz3_0
    obtain ⟨x3_1, x9_1, rfl, HA, HK1, HO_3, BK184, HB⟩ := hrel
    cases gk with
    | zero => exact absurd HA.out (by simp [commute_olds.l0])
    | succ k1 =>
      have H := HA.out;clear HA;simp only [commute_olds.l0] at H
      by_cases c4 : x9_1 < (l0_0.length : Int)
      · rw [if_pos c4] at H;have c4b0 : decide (x9_1 < (l0_0.length : Int)) = true := decide_eq_true c4;clear c4
        by_cases c5 : 0 ≤ x9_1
        · rw [if_pos c5] at H;have c5b0 : decide (0 ≤ x9_1) = true := decide_eq_true c5;clear c5
          by_cases c6 : x9_1 < (l0_0.length : Int)
          · rw [if_pos c6] at H;have c6b0 : decide (x9_1 < (l0_0.length : Int)) = true := decide_eq_true c6;clear c6;replace H := Option.bind_eq_some_iff.mp H;obtain ⟨t187, A70, H⟩ := H;replace H : (if x3_1.length < 8796093022208 then (commute_olds.l0 k1 (x3_1 ++ [(⟨(rd_T47 l0_0 x9_1).f0, t187⟩ : S78)]) l0_0 (l0_0.length : Int) (wrap64 (x9_1 + 1))) else (none)) = some r := H;have A7 := Aside0.mk A70;clear A70
            by_cases c8 : x3_1.length < 8796093022208
            · rw [if_pos c8] at H;have LMc8 := Aside0.mk c8;clear c8;obtain ⟨y188, hy188⟩ : ∃ y_ : List (S78), y_ = (x3_1 ++ [(⟨(rd_T47 l0_0 x9_1).f0, t187⟩ : S78)]) := ⟨_, rfl⟩;replace H : (commute_olds.l0 k1 y188 l0_0 (l0_0.length : Int) (wrap64 (x9_1 + 1))) = some r := (by first|(rw [hy188];with_reducible exact H)|(have H2_ := (Option.bind_some _ _).symm.trans H;rw [hy188];with_reducible exact H2_)|(have H2_ := (Option.bind_some _ _).symm.trans H;with_reducible exact H2_)|with_reducible exact H|(rw [hy188];exact H)|exact H);have Ny188 := Aside0.mk hy188;clear hy188;have H' := Aside0.mk H;clear H;have p185 : 0 ≤ (x9_1 : Int) := dA;have q185 : x9_1 < (l0_0.length : Int) := dA;obtain ⟨ad185, A185_1, c185_1, A185_2, c185_2, e185, hx185_0, hx185_1, hx185_2, hl185_1, hi185_1, hl185_2, hi185_2⟩ := at_T47 HR0_0.out x9_1 p185 q185
              cases e185
              replace hx185_0 := (hX HB hx185_0:);replace hx185_1 := (hX HB hx185_1:);replace hx185_2 := (hX HB hx185_2:);have HR185_1 := Aside0.mk hi185_1;have HC185_1 := Aside0.mk hl185_1;clear hi185_1 hl185_1;have HR185_2 := Aside0.mk hi185_2;have HC185_2 := Aside0.mk hl185_2;clear hi185_2 hl185_2;replace p185 := eq_true p185;replace q185 := eq_true q185
              try go_wp2_with (first|((with_reducible refine gate_dst (N := 5) rfl ?_);refine bE 5 #[.int .i64 0, .slice none 0 0, .slice none 0 0] 47 ?_;intro gb186 hg w9 hbox hb;have BK186 := Aside0.mk (hbox);have GW186 := gBe HB hg;have GE186 := gBe HB hg;have NB184_186 := nL BK184 hg;have NB186_184 := nG BK184 hg;replace HO_3 := rL HO_3 hb;replace BK184 := lJ BK184 hb;replace HB := sBe HB hb;clear hb hbox hg;have hnb10 := eq_false NB186_184.out;have hnc10 := eq_false NB184_186.out;have hcz11_0 := hC BK186 0 (.int .i64 0);have hcz11_1 := hC BK186 1 (.slice none 0 0);have hcz11_2 := hC BK186 2 (.slice none 0 0);have hfz11_0 := blk_frozen BK186.out 0;have hfz11_1 := blk_frozen BK186.out 1;have hfz11_2 := blk_frozen BK186.out 2))
              obtain ⟨w12, hW_⟩ : ∃ w_, w_ = (((w9.setCell ⟨gb186, 0, none⟩ (.int .i64 ((rd_T47 l0_0 x9_1).f0))).setCell ⟨gb186, 1, none⟩ (.slice A185_1 ((rd_T47 l0_0 x9_1).f1).length c185_1)).setCell ⟨gb186, 2, none⟩ (.slice A185_2 ((rd_T47 l0_0 x9_1).f2).length c185_2)) := ⟨_, rfl⟩;have n0_ : Aside0 (Kd.R k78 78 w12 w.heap.size (fun _ => True) u3 x3_1) := ⟨by rw [hW_];(with_reducible repeat first|apply rA|apply rN|apply rD);exact fR (Kd.R_types HO_3.out BK186.out (by decide))⟩;have n1_ : Bk w12 gb184 24 #[.slice (some ad185) l0_0.length c0_0] := ⟨by rw [hW_];exact kK⟩;have n2_ : Bk w12 gb186 47 #[.int .i64 ((rd_T47 l0_0 x9_1).f0), .slice A185_1 ((rd_T47 l0_0 x9_1).f1).length c185_1, .slice A185_2 ((rd_T47 l0_0 x9_1).f2).length c185_2] := ⟨by rw [hW_];exact kK⟩;have n3_ : Aside0 (Below w.heap.size w w12) := ⟨by rw [hW_];exact eB⟩;(try clear HO_3);(try clear BK184);(try clear BK186);(try clear HB);(try rw [← hW_]);clear hW_;have HO_3 := n0_;have BK184 := n1_;have BK186 := n2_;have HB := n3_;clear n0_ n1_ n2_ n3_;replace HO_3 := Aside0.mk (Kd.R_drew HO_3.out);replace BK184 := Aside0.mk (blk_drew BK184.out);replace BK186 := Aside0.mk (blk_drew BK186.out);replace HB := Aside0.mk (below_drew1 HB.out);refine start_ (n := 9) (S := fun w' => w'.cell? ⟨gb186, 0, none⟩ = some (.int .i64 ((rd_T47 l0_0 x9_1).f0)) ∧ w'.cell? ⟨gb186, 1, none⟩ = some (.slice A185_1 ((rd_T47 l0_0 x9_1).f1).length c185_1) ∧ w'.cell? ⟨gb186, 2, none⟩ = some (.slice A185_2 ((rd_T47 l0_0 x9_1).f2).length c185_2)) (ds := []) (mb 9 0) (by kernel_rfl) rfl (by kernel_rfl) ⟨(blk_cell BK186.out 0).trans rfl, (blk_cell BK186.out 1).trans rfl, (blk_cell BK186.out 2).trans rfl⟩ (fun hHeld => ?_);refine with_tabW commute_olds.tab5 commute_olds.bits5 (fun HT_ HW_ => ?_);generalize w12.drew = w13 at HO_3 BK184 BK186 HB hHeld ⊢;refine pA 0 13 (mb 9 1) HT_ rfl rfl ?_;refine pA 1 14 (mb 9 3) HT_ rfl rfl ?_;refine tA 2 15 (mb 9 7) HT_ HW_ hHeld rfl rfl (by rintro w' ⟨s0, s1, s2⟩;go_simp;with_reducible rfl) ?_;refine tA 3 16 (mb 9 15) HT_ HW_ hHeld rfl rfl (by rintro w' ⟨s0, s1, s2⟩;go_simp;with_reducible rfl) ?_;refine one_ (i := 4) (N := some 17) (mb 9 31) rfl rfl (one_of HT_.out (by kernel_rfl)) (by decide) (fun K hK => ?_);refine goes_ Try.func33 (by kernel_rfl) rfl #[.agg #[.int .i64 ((rd_T47 l0_0 x9_1).f0), .slice A185_1 ((rd_T47 l0_0 x9_1).f1).length c185_1, .slice A185_2 ((rd_T47 l0_0 x9_1).f2).length c185_2]] (by rfl) rfl rfl mA ?_
              with_reducible refine (textpatch_End.calls ((rd_T47 l0_0 x9_1).f0) _ _ ((rd_T47 l0_0 x9_1).f1) _ _ ((rd_T47 l0_0 x9_1).f2) t187 _ ?side1 ?side2 ?side3 ?side4 A7.out).mono ?_
              (case side1 => exact cBe HR185_1);(case side2 => exact HC185_1.out);(case side3 => exact cBe HR185_2);(case side4 => exact HC185_2.out)
              rintro e w14 ⟨rfl, hb⟩
              refine ⟨_, rfl, ?_⟩;replace HO_3 := rL HO_3 hb;replace BK184 := lJ BK184 hb;replace BK186 := lJ BK186 hb;replace HB := sBe HB hb;(try clear hb);refine hK.out _ _ ⟨(blk_cell BK186.out 0).trans rfl, (blk_cell BK186.out 1).trans rfl, (blk_cell BK186.out 2).trans rfl⟩ (fun hHeld => ?_);clear hK K;refine nmA (some 17) ?_;refine pA 5 18 (mb 9 63) HT_ rfl rfl ?_;refine one_ (i := 6) (N := some 19) (mb 9 127) rfl rfl (one_of HT_.out (by kernel_rfl)) (by decide) (fun K hK => ?_);refine value_ (w1 := ?_) (v := ?_) (by rfl) rfl ?_ ?_;rotate_left 2
              · go_simp
                constructor
                · rfl
                · rfl
              refine hK.out _ _ ⟨(blk_cell (blk_alloc BK186.out _) 0).trans rfl, (blk_cell (blk_alloc BK186.out _) 1).trans rfl, (blk_cell (blk_alloc BK186.out _) 2).trans rfl⟩ (fun hHeld => ?_);clear hK K;refine nmA (some 19) ?_;refine one_ (i := 7) (N := some 20) (mb 9 255) rfl rfl (one_of HT_.out (by kernel_rfl)) (by decide) (fun K hK => ?_);refine Kd.R_append_step k78 (w0 := w) w.heap.size (by rfl) (.tmp 13) (.tmp 19) 63 78 (.agg #[(.int .i64 0), (.int .i64 0)]) 16 rfl Try.underlying63 info78 rfl (by decide) (by omega) u3 x3_1 (⟨(rd_T47 l0_0 x9_1).f0, t187⟩ : S78) [.int .i64 ((rd_T47 l0_0 x9_1).f0), .int .i64 t187] (fun _ => True) (fun _ => False) rfl rfl ?aP (fun _ hk => hk.elim) ?aF ?aO ?aB ?aS ?aL ?_;(case aP => exact k78_mkM _ _ _ (⟨(rd_T47 l0_0 x9_1).f0, t187⟩ : S78));(case aB => exact eB);(case aF => exact (fun _ _ => trivial));(case aO => exact (rK HO_3));(case aS => exact (below_size eB));(case aL => have := LMc8.out;omega)
              intro v189 w15 ho hb hg hat
              rw [← Ny188.out] at ho;have n0_ := Aside0.mk (blk_grown (g := gb184) (o := .cells #[.slice (some ad185) l0_0.length c0_0] 24 (0, 0)) kK hg (Kd.R_ne HO_3.out BK184.out (by decide)));have n1_ := Aside0.mk (blk_grown (g := gb186) (o := .cells #[.int .i64 ((rd_T47 l0_0 x9_1).f0), .slice A185_1 ((rd_T47 l0_0 x9_1).f1).length c185_1, .slice A185_2 ((rd_T47 l0_0 x9_1).f2).length c185_2] 47 (0, 0)) kK hg (Kd.R_ne HO_3.out BK186.out (by decide)));have n2_ := Aside0.mk (hb);have n3_ := Aside0.mk (ho);clear BK184;clear BK186;clear HB;clear HO_3;have BK184 := n0_;have BK186 := n1_;have HB := n2_;have HO190 := n3_;clear n0_ n1_ n2_ n3_;clear ho hb hg hat;refine hK.out _ _ ⟨(blk_cell BK186.out 0).trans rfl, (blk_cell BK186.out 1).trans rfl, (blk_cell BK186.out 2).trans rfl⟩ (fun hHeld => ?_);clear hK K;refine nmA (some 20) ?_;refine pA 8 3 (mb 9 511) HT_ rfl rfl ?_;refine done_ (done_of HT_.out (by kernel_rfl)) ?_
              try go_wp2
              go_roundg k1
              case measure => have := HK1.out;omega
              case rel => exact ⟨(y188), (wrap64 (x9_1 + 1)), (by first|rfl|(simp only [i64_w, i32_w];done)|(simp only [i64_w, i32_w];rfl)|(simp;done)|(simp [*];done)), H', ⟨by have := HK1.out;omega⟩, ⟨by (with_reducible repeat first|apply rA|apply rN|apply rD);exact HO190.out⟩, ⟨kK⟩, ⟨eB⟩⟩
            · rw [if_neg c8] at H;exact absurd H (by simp)
          · rw [if_neg c6] at H;exact absurd H (by simp)
        · rw [if_neg c5] at H;exact absurd H (by simp)
      · rw [if_neg c4] at H;have c4b0 : decide (x9_1 < (l0_0.length : Int)) = false := decide_eq_false c4;clear c4;obtain rfl := Option.some.inj H
        go_wp2
        go_ret
        exact ⟨_, rW, by (with_reducible repeat first|apply rA|apply rN|apply rD);exact HO_3.out, eB⟩

/-! ### slices_Clone_string_string: function 39 -/
def slices_Clone_string_string.f (l0 : List ByteArray) : Option (List ByteArray) :=  if l0.length ≤ 8796093022208 then some l0 else none
theorem slices_Clone_string_string.calls (A0 : Option Addr) (c0 : Nat) (l0 : List ByteArray) (r : List ByteArray) (w : World) (hr0 : Kd.C Kd.string w A0 l0.length l0) (hc0 : l0.length ≤ c0) (h : slices_Clone_string_string.f l0 = some r) :
    Calls Try.prog 39 #[.slice A0 l0.length c0] w fun e w' => ∃ v0_ : Value, e = .returned (v0_) ∧ Kd.R Kd.string 9 w' w.heap.size (fun _ => True) v0_ r ∧ Below w.heap.size w w' := by
  replace h : (if l0.length ≤ 8796093022208 then some l0 else none) = some r := h
  by_cases hb : l0.length ≤ 8796093022208
  · rw [if_pos hb] at h
    obtain rfl := Option.some.inj h
    cases A0 with
    | none =>
      have hl : l0 = [] := by
        have := (Kd.reads_of_C (enc := Value.string) (d := ByteArray.empty) (h1 := fun _ => rfl) hr0).2.2
        cases l0 with
        | nil => rfl
        | cons a r => obtain ⟨ad, e, _⟩ := this (by simp); cases e
      subst hl
      refine (Try.slices_Clone_string_nil 0 c0 w).mono fun e w' ⟨he, hw⟩ => ⟨_, he, Kd.R_nil _ _ _ _ _, by rw [hw]; exact Below.refl _ _⟩
    | some a =>
      by_cases h0 : l0.length = 0
      · have hl : l0 = [] := List.eq_nil_of_length_eq_zero h0
        subst hl
        refine (Try.slices_Clone_string_zero a c0 w).mono fun e w' ⟨v', he, ho, _, hbel⟩ => ⟨v', he, Kd.R_of_own (enc := Value.string) (h1 := fun _ => rfl) (xs := []) ho (fun _ _ => trivial), hbel⟩
      · obtain ⟨ad, e, hc⟩ := (Kd.reads_of_C (enc := Value.string) (d := ByteArray.empty) (h1 := fun _ => rfl) hr0).2.2 (by omega)
        obtain rfl := Option.some.inj e
        obtain ⟨b, off, f⟩ := a
        obtain rfl : f = none := by
          have := hc 0 (by omega)
          cases f with
          | none => rfl
          | some s =>
            unfold Addr.add World.cell? at this
            rw [if_pos rfl] at this
            simp at this
            split at this <;> simp at this
        refine (Try.slices_Clone_string b off l0.length c0 l0 w (Nat.le_refl _) (by omega) ?_).mono fun e w' ⟨v', he, ho, _, hbel⟩ => ⟨v', he, Kd.R_of_own (enc := Value.string) (h1 := fun _ => rfl) (xs := l0) (by rw [List.take_length] at ho; exact ho) (fun _ _ => trivial), hbel⟩
        intro j hj
        have := hc j hj
        have e : (⟨b, off, none⟩ : Addr).add j = ⟨b, off + j, none⟩ := by unfold Addr.add; split <;> simp_all
        rw [e] at this
        exact this
  · rw [if_neg hb] at h; cases h


/-! ### textpatch_Moved: function 65 -/
def textpatch_Moved.f (a0_0 : Int) (l0_1 : List ByteArray) (l0_2 : List ByteArray) (a1 : Int) : Option (Int × List ByteArray × List ByteArray) := (slices_Clone_string_string.f l0_1).bind fun t193 => ((slices_Clone_string_string.f l0_2).bind fun t196 => (some (a1, t193, t196)))
def textpatch_Moved.T1 : Bool × List (List Nat × List Nat) := (true, [([], []), ([], []), ([1], [1]), ([2], [2]), ([], []), ([4], [4]), ([5, 3], [5]), ([0, 3, 6], [0, 3, 6]), ([7, 6, 0, 1, 2, 3, 4, 5, 6, 7], [7])])
def textpatch_Moved.B1 : List Nat := [0, 0, 2, 6, 0, 16, 62, 127, 255]
theorem textpatch_Moved.tab1 : rtab .any (opsOf Try.f65 1) = textpatch_Moved.T1 := by kernel_rfl
theorem textpatch_Moved.bits1 : waitsOk textpatch_Moved.T1.2 textpatch_Moved.B1 = true := by kernel_rfl
set_option maxHeartbeats 8000000 in
set_option maxRecDepth 100000 in
theorem textpatch_Moved.calls (a0_0 : Int) (A0_1 : Option Addr) (c0_1 : Nat) (l0_1 : List ByteArray) (A0_2 : Option Addr) (c0_2 : Nat) (l0_2 : List ByteArray) (a1 : Int) (r1 : Int) (r2 : List ByteArray) (r3 : List ByteArray) (w : World) (hr0_1 : Kd.C Kd.string w A0_1 l0_1.length l0_1) (hc0_1 : l0_1.length ≤ c0_1) (hr0_2 : Kd.C Kd.string w A0_2 l0_2.length l0_2) (hc0_2 : l0_2.length ≤ c0_2) (h : textpatch_Moved.f a0_0 l0_1 l0_2 a1 = some (r1, r2, r3)) :
    Calls Try.prog 65 #[.agg #[.int .i64 a0_0, .slice A0_1 l0_1.length c0_1, .slice A0_2 l0_2.length c0_2], .int .i64 a1] w fun e w' => ∃ v1_ v2_ : Value, e = .returned (.agg #[.int .i64 r1, v1_, v2_]) ∧ Kd.R Kd.string 9 w' w.heap.size (fun k_ => some k_ ≠ (v2_ : Value).ownBlock) v1_ r2 ∧ Kd.R Kd.string 9 w' w.heap.size (fun k_ => some k_ ≠ (v1_ : Value).ownBlock) v2_ r3 ∧ Below w.heap.size w w' := by
  have hu47 := Try.underlying47;have HR0_1 := Aside0.mk hr0_1;have HC0_1 := Aside0.mk hc0_1;clear hr0_1 hc0_1;have HR0_2 := Aside0.mk hr0_2;have HC0_2 := Aside0.mk hc0_2;clear hr0_2 hc0_2;have HB := Aside0.mk (Below.refl w.heap.size w);have H : ((slices_Clone_string_string.f l0_1).bind fun t193 => ((slices_Clone_string_string.f l0_2).bind fun t196 => (some (a1, t193, t196)))) = some (r1, r2, r3) := h;clear h;replace H := Option.bind_eq_some_iff.mp H;obtain ⟨t193, A30, H⟩ := H;replace H : ((slices_Clone_string_string.f l0_2).bind fun t196 => (some (a1, t193, t196))) = some (r1, r2, r3) := H;have A3 := Aside0.mk A30;clear A30;replace H := Option.bind_eq_some_iff.mp H;obtain ⟨t196, A40, H⟩ := H;replace H : (some (a1, t193, t196)) = some (r1, r2, r3) := H;have A4 := Aside0.mk A40;clear A40;simp only [Option.some.injEq, Prod.mk.injEq] at H;obtain ⟨rfl, rfl, rfl⟩ := H
  go_enter Try.func65, Try.ntmps65
  try go_wp2_with (first|((with_reducible refine gate_dst (N := 2) rfl ?_);refine bE 2 #[.int .i64 a0_0, .slice A0_1 l0_1.length c0_1, .slice A0_2 l0_2.length c0_2] 47 ?_;intro gb191 hg w5 hbox hb;have BK191 := Aside0.mk (hbox);have GW191 := gBe HB hg;have GE191 := gBe HB hg;replace HB := sBe HB hb;clear hb hbox hg)|((with_reducible refine gate_dst (N := 4) rfl ?_);refine bE 4 #[.int .i64 0, .slice none 0 0, .slice none 0 0] 47 ?_;intro gb192 hg w6 hbox hb;have BK192 := Aside0.mk (hbox);have GW192 := gBe HB hg;have GE192 := gBe HB hg;have NB191_192 := nL BK191 hg;have NB192_191 := nG BK191 hg;replace BK191 := lJ BK191 hb;replace HB := sBe HB hb;clear hb hbox hg))
  replace BK191 := Aside0.mk (blk_drew BK191.out);replace BK192 := Aside0.mk (blk_drew BK192.out);replace HB := Aside0.mk (below_drew1 HB.out);refine start_ (n := 9) (S := fun w' => w'.cell? ⟨gb191, 0, none⟩ = some (.int .i64 a0_0) ∧ w'.cell? ⟨gb191, 1, none⟩ = some (.slice A0_1 l0_1.length c0_1) ∧ w'.cell? ⟨gb191, 2, none⟩ = some (.slice A0_2 l0_2.length c0_2)) (ds := []) (mb 9 0) (by kernel_rfl) rfl (by kernel_rfl) ⟨(blk_cell BK191.out 0).trans rfl, (blk_cell BK191.out 1).trans rfl, (blk_cell BK191.out 2).trans rfl⟩ (fun hHeld => ?_);refine with_tabW textpatch_Moved.tab1 textpatch_Moved.bits1 (fun HT_ HW_ => ?_);generalize w6.drew = w7 at BK191 BK192 HB hHeld ⊢;refine pA 0 5 (mb 9 1) HT_ rfl rfl ?_;refine pA 1 6 (mb 9 3) HT_ rfl rfl ?_;refine pA 4 9 (mb 9 19) HT_ rfl rfl ?_;refine tA 2 7 (mb 9 23) HT_ HW_ hHeld rfl rfl (by rintro w' ⟨s0, s1, s2⟩;go_simp;with_reducible rfl) ?_;refine tA 5 10 (mb 9 55) HT_ HW_ hHeld rfl rfl (by rintro w' ⟨s0, s1, s2⟩;go_simp;with_reducible rfl) ?_;refine one_ (i := 3) (N := some 8) (mb 9 63) rfl rfl (one_of HT_.out (by kernel_rfl)) (by decide) (fun K hK => ?_);refine goes_ Try.func39 (by kernel_rfl) rfl #[.slice A0_1 l0_1.length c0_1] (by rfl) rfl rfl mA ?_
  with_reducible refine (slices_Clone_string_string.calls _ _ l0_1 t193 _ ?side1 ?side2 A3.out).mono ?_
  (case side1 => exact cBe HR0_1);(case side2 => exact HC0_1.out)
  rintro e w8 ⟨v194, rfl, ho0, hb⟩
  refine ⟨_, rfl, ?_⟩;have HO195 := Aside0.mk (Kd.R_lower ho0 (below_size eB));replace BK191 := lJ BK191 hb;replace BK192 := lJ BK192 hb;replace HB := sBe HB hb;(try clear hb ho0);refine hK.out _ _ ⟨(blk_cell BK191.out 0).trans rfl, (blk_cell BK191.out 1).trans rfl, (blk_cell BK191.out 2).trans rfl⟩ (fun hHeld => ?_);clear hK K;refine nmA (some 8) ?_;refine one_ (i := 6) (N := some 11) (mb 9 127) rfl rfl (one_of HT_.out (by kernel_rfl)) (by decide) (fun K hK => ?_);refine goes_ Try.func39 (by kernel_rfl) rfl #[.slice A0_2 l0_2.length c0_2] (by rfl) rfl rfl mA ?_
  with_reducible refine (slices_Clone_string_string.calls _ _ l0_2 t196 _ ?side1 ?side2 A4.out).mono ?_
  (case side1 => exact cBe HR0_2);(case side2 => exact HC0_2.out)
  rintro e w9 ⟨v197, rfl, ho0, hb⟩
  refine ⟨_, rfl, ?_⟩;have HO198 := Aside0.mk (Kd.R_lower (Kd.R_new' ho0 (Kd.R_lt (rK HO195))) (below_size eB));replace HO195 := Aside0.mk (Kd.R_elder' (rK HO195) (Kd.R_base ho0) hb);replace BK191 := lJ BK191 hb;replace BK192 := lJ BK192 hb;replace HB := sBe HB hb;(try clear hb ho0);obtain ⟨Ao10, co10, eo10⟩ := Kd.R_slice HO198.out
  (first|subst eo10|(injection eo10 with f1_ f2_ f3_;have f4_ := f1_.symm;have f5_ := f3_.symm;clear f1_ f2_ f3_;subst f4_;subst f5_))
  obtain ⟨Ao11, co11, eo11⟩ := Kd.R_slice HO195.out
  (first|subst eo11|(injection eo11 with f1_ f2_ f3_;have f4_ := f1_.symm;have f5_ := f3_.symm;clear f1_ f2_ f3_;subst f4_;subst f5_))
  refine hK.out _ _ ⟨(blk_cell BK191.out 0).trans rfl, (blk_cell BK191.out 1).trans rfl, (blk_cell BK191.out 2).trans rfl⟩ (fun hHeld => ?_);clear hK K;refine nmA (some 11) ?_;refine pA 7 12 (mb 9 255) HT_ rfl rfl ?_;refine one_ (i := 8) (N := none) (mb 9 511) rfl rfl (one_of HT_.out (by kernel_rfl)) (by decide) (fun K hK => ?_);have hs12 : w9.cell? ⟨gb192, 0, none⟩ = some (.int .i64 0) := (blk_cell BK192.out 0).trans rfl;have hfs12 := blk_frozen BK192.out 0;have := NB191_192.out;have := NB192_191.out;have hs13 : w9.cell? ⟨gb192, 1, none⟩ = some (.slice none 0 0) := (blk_cell BK192.out 1).trans rfl;have hfs13 := blk_frozen BK192.out 1;have := NB191_192.out;have := NB192_191.out;have hs14 : w9.cell? ⟨gb192, 2, none⟩ = some (.slice none 0 0) := (blk_cell BK192.out 2).trans rfl;have hfs14 := blk_frozen BK192.out 2;have := NB191_192.out;have := NB192_191.out;refine skip_ (w1 := ?_) (by rfl) rfl ?_ ?_;rotate_left
  · go_simp
    rfl
  refine hK.out _ _ ⟨((cell_far (p := ⟨gb192, _, none⟩) NB191_192.out _).trans (((cell_far (p := ⟨gb192, _, none⟩) NB191_192.out _).trans (((cell_far (p := ⟨gb192, _, none⟩) NB191_192.out _).trans (hHeld.1)))))), ((cell_far (p := ⟨gb192, _, none⟩) NB191_192.out _).trans (((cell_far (p := ⟨gb192, _, none⟩) NB191_192.out _).trans (((cell_far (p := ⟨gb192, _, none⟩) NB191_192.out _).trans (hHeld.2.1)))))), ((cell_far (p := ⟨gb192, _, none⟩) NB191_192.out _).trans (((cell_far (p := ⟨gb192, _, none⟩) NB191_192.out _).trans (((cell_far (p := ⟨gb192, _, none⟩) NB191_192.out _).trans (hHeld.2.2))))))⟩ (fun hHeld => ?_);clear hK K;refine done_ (done_of HT_.out (by kernel_rfl)) ?_
  try go_wp2
  refine bodyPost_ret (results_cell_row rfl _ _ gb192 47 #[.int .i64 a1, .slice Ao11 t193.length co11, .slice Ao10 t196.length co10] (0, 0) _ rfl kK Try.underlying47 rfl (by kernel_rfl)) rfl ?_;exact ⟨_, _, rW, by (with_reducible repeat first|apply rA|apply rN|apply rD);exact Kd.R_mono (Kd.R_far (p := ⟨gb192, 2, none⟩) (Kd.R_far (p := ⟨gb192, 1, none⟩) (Kd.R_far (p := ⟨gb192, 0, none⟩) (Kd.R_types HO195.out BK192.out (by decide)) (fun _ hk => hk.2) (.int .i64 a1)) (fun _ hk => hk.2) (.slice Ao11 t193.length co11)) (fun _ hk => hk.2) (.slice Ao10 t196.length co10)) (fun _ hk => hk.1.2), by (with_reducible repeat first|apply rA|apply rN|apply rD);exact Kd.R_mono (Kd.R_far (p := ⟨gb192, 2, none⟩) (Kd.R_far (p := ⟨gb192, 1, none⟩) (Kd.R_far (p := ⟨gb192, 0, none⟩) (Kd.R_types HO198.out BK192.out (by decide)) (fun _ hk => hk.2) (.int .i64 a1)) (fun _ hk => hk.2) (.slice Ao11 t193.length co11)) (fun _ hk => hk.2) (.slice Ao10 t196.length co10)) (fun _ hk => hk.1.2), eB⟩

/-! ### commute_growth: function 66 -/
def commute_growth.l0 : Nat → List (S78) → Int → Int → List (S47) → Int → Int → Option (Int)
  | 0, _, _, _, _, _, _ => none
  | k + 1, x1, x2, x7, x11, x12, x13 => if x13 < x12 then (if 0 ≤ x13 then (if x13 < (x11.length : Int) then (if x13 < (x1.length : Int) then (if ((rd_T78 x1 x13).f1) < x2 then (commute_growth.l0 k x1 x2 (wrap64 (x7 + (wrap64 ((((rd_T47 x11 x13).f2).length : Int) - (((rd_T47 x11 x13).f1).length : Int))))) x11 x12 (wrap64 (x13 + 1))) else (commute_growth.l0 k x1 x2 x7 x11 x12 (wrap64 (x13 + 1)))) else (none)) else (none)) else (none)) else (some x7)
def commute_growth.f (k : Nat) (l0_0 : List (S47)) (l1 : List (S78)) (a2 : Int) : Option (Int) := commute_growth.l0 k l1 a2 0 l0_0 (l0_0.length : Int) 0
theorem commute_growth.mono_l : ∀ k, (∀ y0 y1 y2 y3 y4 y5, LeO (commute_growth.l0 k y0 y1 y2 y3 y4 y5) (commute_growth.l0 (k + 1) y0 y1 y2 y3 y4 y5))
  | 0 => fun _ _ _ _ _ _ r h => by simp [commute_growth.l0] at h
  | k + 1 => by
    have ih0 := commute_growth.mono_l k
    · intro y0 y1 y2 y3 y4 y5
      unfold commute_growth.l0
      repeat' first
      | (with_reducible exact ih0 _ _ _ _ _ _)
      | (with_reducible exact LeO.refl _)
      | (with_reducible exact LeO.none _)
      | (with_reducible refine LeO.ite ?_ ?_)
      | (with_reducible refine LeO.bind ?_ (fun _ => ?_))
      | exact ih0 _ _ _ _ _ _
      | exact LeO.none _
      | refine LeO.ite ?_ ?_
      | refine LeO.bind ?_ (fun _ => ?_)
theorem commute_growth.mono : ∀ a0 a1 a2 k, LeO (commute_growth.f k a0 a1 a2) (commute_growth.f (k + 1) a0 a1 a2) := by
  intro a0 a1 a2 k
  have ih0 := commute_growth.mono_l k
  unfold commute_growth.f
  repeat' first
      | (with_reducible exact ih0 _ _ _ _ _ _)
      | (with_reducible exact LeO.refl _)
      | (with_reducible exact LeO.none _)
      | (with_reducible refine LeO.ite ?_ ?_)
      | (with_reducible refine LeO.bind ?_ (fun _ => ?_))
      | exact ih0 _ _ _ _ _ _
      | exact LeO.none _
      | refine LeO.ite ?_ ?_
      | refine LeO.bind ?_ (fun _ => ?_)
set_option maxHeartbeats 8000000 in
set_option maxRecDepth 100000 in
theorem commute_growth.calls (k : Nat) (A0_0 : Option Addr) (c0_0 : Nat) (l0_0 : List (S47)) (A1 : Option Addr) (c1 : Nat) (l1 : List (S78)) (a2 : Int) (r : Int) (w : World) (hr0_0 : Kd.C k47 w A0_0 l0_0.length l0_0) (hc0_0 : l0_0.length ≤ c0_0) (hr1 : Kd.C k78 w A1 l1.length l1) (hc1 : l1.length ≤ c1) (h : commute_growth.f k l0_0 l1 a2 = some r) :
    Calls Try.prog 66 #[.agg #[.slice A0_0 l0_0.length c0_0], .slice A1 l1.length c1, .int .i64 a2] w fun e w' => e = .returned (.int .i64 r) ∧ Below w.heap.size w w' := by
  have hu24 := Try.underlying24;have hu47 := Try.underlying47;have HR0_0 := Aside0.mk hr0_0;have HC0_0 := Aside0.mk hc0_0;clear hr0_0 hc0_0;have HR1 := Aside0.mk hr1;have HC1 := Aside0.mk hc1;clear hr1 hc1;have HB := Aside0.mk (Below.refl w.heap.size w);have H : (commute_growth.l0 k l1 a2 0 l0_0 (l0_0.length : Int) 0) = some r := h;clear h;have H' := Aside0.mk H;clear H
  go_enter Try.func66, Try.ntmps66
  go_wp2_with (first|((with_reducible refine gate_dst (N := 3) rfl ?_);refine bE 3 #[.slice A0_0 l0_0.length c0_0] 24 ?_;intro gb199 hg w4 hbox hb;have BK199 := Aside0.mk (hbox);have GW199 := gBe HB hg;have GE199 := gBe HB hg;replace HB := sBe HB hb;clear hb hbox hg;have hcz5_0 := hC BK199 0 (.slice A0_0 l0_0.length c0_0);have hfz5_0 := blk_frozen BK199.out 0))
  go_loopg [7, 13] k (fun kq v7 v13 w' => ∃ (x7_1 : Int) (x13_1 : Int), v7 = .int .i64 x7_1 ∧ v13 = .int .i64 x13_1 ∧ Aside0 (commute_growth.l0 kq l1 a2 x7_1 l0_0 (l0_0.length : Int) x13_1 = some r) ∧ Aside0 (kq ≤ k) ∧ Bk w' gb199 24 #[(.slice A0_0 l0_0.length c0_0)] ∧ Aside0 (Below w.heap.size w w'))
  case atStart => exact ⟨(0), (0), (by first|rfl|(simp only [i64_w, i32_w];done)|(simp only [i64_w, i32_w];rfl)|(simp;done)|(simp [*];done)), (by first|rfl|(simp only [i64_w, i32_w];done)|(simp only [i64_w, i32_w];rfl)|(simp;done)|(simp [*];done)), H', ⟨Nat.le_refl _⟩, ⟨kK⟩, ⟨eB⟩⟩
  case round =>
    clear H'
    try clear c1
    try clear p2
    try clear hcz5_0
    try clear hfz5_0
    obtain ⟨x7_1, x13_1, rfl, rfl, HA, HK1, BK199, HB⟩ := hrel
    cases gk with
    | zero => exact absurd HA.out (by simp [commute_growth.l0])
    | succ k1 =>
      have H := HA.out;clear HA;simp only [commute_growth.l0] at H
      by_cases c6 : x13_1 < (l0_0.length : Int)
      · rw [if_pos c6] at H;have c6b0 : decide (x13_1 < (l0_0.length : Int)) = true := decide_eq_true c6;clear c6
        by_cases c7 : 0 ≤ x13_1
        · rw [if_pos c7] at H;have c7b0 : decide (0 ≤ x13_1) = true := decide_eq_true c7;clear c7
          by_cases c8 : x13_1 < (l0_0.length : Int)
          · rw [if_pos c8] at H;have c8b0 : decide (x13_1 < (l0_0.length : Int)) = true := decide_eq_true c8;clear c8
            by_cases c9 : x13_1 < (l1.length : Int)
            · rw [if_pos c9] at H;have c9b0 : decide (x13_1 < (l1.length : Int)) = true := decide_eq_true c9;clear c9;have p200 : 0 ≤ (x13_1 : Int) := dA;have q200 : x13_1 < (l0_0.length : Int) := dA;obtain ⟨ad200, A200_1, c200_1, A200_2, c200_2, e200, hx200_0, hx200_1, hx200_2, hl200_1, hi200_1, hl200_2, hi200_2⟩ := at_T47 HR0_0.out x13_1 p200 q200
              cases e200
              replace hx200_0 := (hX HB hx200_0:);replace hx200_1 := (hX HB hx200_1:);replace hx200_2 := (hX HB hx200_2:);have HR200_1 := Aside0.mk hi200_1;have HC200_1 := Aside0.mk hl200_1;clear hi200_1 hl200_1;have HR200_2 := Aside0.mk hi200_2;have HC200_2 := Aside0.mk hl200_2
              by_cases c10 : ((rd_T78 l1 x13_1).f1) < a2
              · rw [if_pos c10] at H;have c10b0 : decide (((rd_T78 l1 x13_1).f1) < a2) = true := decide_eq_true c10;clear c10;have H' := Aside0.mk H;clear H;clear hi200_2 hl200_2;replace p200 := eq_true p200;replace q200 := eq_true q200
                go_wp2_with (first|((with_reducible refine gate_dst (N := 9) rfl ?_);refine bE 9 #[.int .i64 0, .slice none 0 0, .slice none 0 0] 47 ?_;intro gb201 hg w11 hbox hb;have BK201 := Aside0.mk (hbox);have GW201 := gBe HB hg;have GE201 := gBe HB hg;have NB199_201 := nL BK199 hg;have NB201_199 := nG BK199 hg;replace BK199 := lJ BK199 hb;replace HB := sBe HB hb;clear hb hbox hg;have hnb12 := eq_false NB201_199.out;have hnc12 := eq_false NB199_201.out;have hcz13_0 := hC BK201 0 (.int .i64 0);have hcz13_1 := hC BK201 1 (.slice none 0 0);have hcz13_2 := hC BK201 2 (.slice none 0 0);have hfz13_0 := blk_frozen BK201.out 0;have hfz13_1 := blk_frozen BK201.out 1;have hfz13_2 := blk_frozen BK201.out 2;have p202 : 0 ≤ (x13_1 : Int) := dA;have q202 : x13_1 < (l1.length : Int) := dA;obtain ⟨ad202, e202, hx202_0, hx202_1⟩ := at_T78 HR1.out x13_1 p202 q202;cases e202;have hn202_0 : ad202.block ≠ gb201 := Nat.ne_of_lt (Nat.lt_of_lt_of_le (by have := World.block_lt_of_cell? _ _ hx202_0;first|rwa [add_block] at this|exact this) GW201.out);have hn202_1 : ad202.block ≠ gb201 := Nat.ne_of_lt (Nat.lt_of_lt_of_le (by have := World.block_lt_of_cell? _ _ hx202_0;first|rwa [add_block] at this|exact this) GW201.out);have hn202_2 : ad202.block ≠ gb201 := Nat.ne_of_lt (Nat.lt_of_lt_of_le (by have := World.block_lt_of_cell? _ _ hx202_0;first|rwa [add_block] at this|exact this) GW201.out);replace hx202_0 := (hX HB hx202_0:);replace hx202_1 := (hX HB hx202_1:);replace hx202_0 := (cell_far (p := ⟨gb201, 0, none⟩) (by first|(rw [add_block];exact hn202_0)|(show (Addr.add _ _).block ≠ _;rw [add_block];exact hn202_0)|exact hn202_0) (.int .i64 ((rd_T47 l0_0 x13_1).f0))).trans hx202_0;replace hx202_1 := (cell_far (p := ⟨gb201, 0, none⟩) (by first|(rw [add_block];exact hn202_0)|(show (Addr.add _ _).block ≠ _;rw [add_block];exact hn202_0)|exact hn202_0) (.int .i64 ((rd_T47 l0_0 x13_1).f0))).trans hx202_1;replace hx202_0 := (cell_far (p := ⟨gb201, 1, none⟩) (by first|(rw [add_block];exact hn202_1)|(show (Addr.add _ _).block ≠ _;rw [add_block];exact hn202_1)|exact hn202_1) (.slice A200_1 ((rd_T47 l0_0 x13_1).f1).length c200_1)).trans hx202_0;replace hx202_1 := (cell_far (p := ⟨gb201, 1, none⟩) (by first|(rw [add_block];exact hn202_1)|(show (Addr.add _ _).block ≠ _;rw [add_block];exact hn202_1)|exact hn202_1) (.slice A200_1 ((rd_T47 l0_0 x13_1).f1).length c200_1)).trans hx202_1;replace hx202_0 := (cell_far (p := ⟨gb201, 2, none⟩) (by first|(rw [add_block];exact hn202_2)|(show (Addr.add _ _).block ≠ _;rw [add_block];exact hn202_2)|exact hn202_2) (.slice A200_2 ((rd_T47 l0_0 x13_1).f2).length c200_2)).trans hx202_0;replace hx202_1 := (cell_far (p := ⟨gb201, 2, none⟩) (by first|(rw [add_block];exact hn202_2)|(show (Addr.add _ _).block ≠ _;rw [add_block];exact hn202_2)|exact hn202_2) (.slice A200_2 ((rd_T47 l0_0 x13_1).f2).length c200_2)).trans hx202_1;clear hn202_0;clear hn202_1;clear hn202_2;replace p202 := eq_true p202;replace q202 := eq_true q202))
                go_roundg k1
                case measure => have := HK1.out;omega
                case rel => exact ⟨(wrap64 (x7_1 + (wrap64 ((((rd_T47 l0_0 x13_1).f2).length : Int) - (((rd_T47 l0_0 x13_1).f1).length : Int))))), (wrap64 (x13_1 + 1)), (by first|rfl|(simp only [i64_w, i32_w];done)|(simp only [i64_w, i32_w];rfl)|(simp;done)|(simp [*];done)), (by first|rfl|(simp only [i64_w, i32_w];done)|(simp only [i64_w, i32_w];rfl)|(simp;done)|(simp [*];done)), H', ⟨by have := HK1.out;omega⟩, ⟨kK⟩, ⟨eB⟩⟩
              · rw [if_neg c10] at H;have c10b0 : decide (((rd_T78 l1 x13_1).f1) < a2) = false := decide_eq_false c10;clear c10;have H' := Aside0.mk H;clear H;clear hi200_2 hl200_2;replace p200 := eq_true p200;replace q200 := eq_true q200
                go_wp2_with (first|((with_reducible refine gate_dst (N := 9) rfl ?_);refine bE 9 #[.int .i64 0, .slice none 0 0, .slice none 0 0] 47 ?_;intro gb201 hg w11 hbox hb;have BK201 := Aside0.mk (hbox);have GW201 := gBe HB hg;have GE201 := gBe HB hg;have NB199_201 := nL BK199 hg;have NB201_199 := nG BK199 hg;replace BK199 := lJ BK199 hb;replace HB := sBe HB hb;clear hb hbox hg;have hnb12 := eq_false NB201_199.out;have hnc12 := eq_false NB199_201.out;have hcz13_0 := hC BK201 0 (.int .i64 0);have hcz13_1 := hC BK201 1 (.slice none 0 0);have hcz13_2 := hC BK201 2 (.slice none 0 0);have hfz13_0 := blk_frozen BK201.out 0;have hfz13_1 := blk_frozen BK201.out 1;have hfz13_2 := blk_frozen BK201.out 2;have p202 : 0 ≤ (x13_1 : Int) := dA;have q202 : x13_1 < (l1.length : Int) := dA;obtain ⟨ad202, e202, hx202_0, hx202_1⟩ := at_T78 HR1.out x13_1 p202 q202;cases e202;have hn202_0 : ad202.block ≠ gb201 := Nat.ne_of_lt (Nat.lt_of_lt_of_le (by have := World.block_lt_of_cell? _ _ hx202_0;first|rwa [add_block] at this|exact this) GW201.out);have hn202_1 : ad202.block ≠ gb201 := Nat.ne_of_lt (Nat.lt_of_lt_of_le (by have := World.block_lt_of_cell? _ _ hx202_0;first|rwa [add_block] at this|exact this) GW201.out);have hn202_2 : ad202.block ≠ gb201 := Nat.ne_of_lt (Nat.lt_of_lt_of_le (by have := World.block_lt_of_cell? _ _ hx202_0;first|rwa [add_block] at this|exact this) GW201.out);replace hx202_0 := (hX HB hx202_0:);replace hx202_1 := (hX HB hx202_1:);replace hx202_0 := (cell_far (p := ⟨gb201, 0, none⟩) (by first|(rw [add_block];exact hn202_0)|(show (Addr.add _ _).block ≠ _;rw [add_block];exact hn202_0)|exact hn202_0) (.int .i64 ((rd_T47 l0_0 x13_1).f0))).trans hx202_0;replace hx202_1 := (cell_far (p := ⟨gb201, 0, none⟩) (by first|(rw [add_block];exact hn202_0)|(show (Addr.add _ _).block ≠ _;rw [add_block];exact hn202_0)|exact hn202_0) (.int .i64 ((rd_T47 l0_0 x13_1).f0))).trans hx202_1;replace hx202_0 := (cell_far (p := ⟨gb201, 1, none⟩) (by first|(rw [add_block];exact hn202_1)|(show (Addr.add _ _).block ≠ _;rw [add_block];exact hn202_1)|exact hn202_1) (.slice A200_1 ((rd_T47 l0_0 x13_1).f1).length c200_1)).trans hx202_0;replace hx202_1 := (cell_far (p := ⟨gb201, 1, none⟩) (by first|(rw [add_block];exact hn202_1)|(show (Addr.add _ _).block ≠ _;rw [add_block];exact hn202_1)|exact hn202_1) (.slice A200_1 ((rd_T47 l0_0 x13_1).f1).length c200_1)).trans hx202_1;replace hx202_0 := (cell_far (p := ⟨gb201, 2, none⟩) (by first|(rw [add_block];exact hn202_2)|(show (Addr.add _ _).block ≠ _;rw [add_block];exact hn202_2)|exact hn202_2) (.slice A200_2 ((rd_T47 l0_0 x13_1).f2).length c200_2)).trans hx202_0;replace hx202_1 := (cell_far (p := ⟨gb201, 2, none⟩) (by first|(rw [add_block];exact hn202_2)|(show (Addr.add _ _).block ≠ _;rw [add_block];exact hn202_2)|exact hn202_2) (.slice A200_2 ((rd_T47 l0_0 x13_1).f2).length c200_2)).trans hx202_1;clear hn202_0;clear hn202_1;clear hn202_2;replace p202 := eq_true p202;replace q202 := eq_true q202))
                go_roundg k1
                case measure => have := HK1.out;omega
                case rel => exact ⟨(x7_1), (wrap64 (x13_1 + 1)), (by first|rfl|(simp only [i64_w, i32_w];done)|(simp only [i64_w, i32_w];rfl)|(simp;done)|(simp [*];done)), (by first|rfl|(simp only [i64_w, i32_w];done)|(simp only [i64_w, i32_w];rfl)|(simp;done)|(simp [*];done)), H', ⟨by have := HK1.out;omega⟩, ⟨kK⟩, ⟨eB⟩⟩
            · rw [if_neg c9] at H;exact absurd H (by simp)
          · rw [if_neg c8] at H;exact absurd H (by simp)
        · rw [if_neg c7] at H;exact absurd H (by simp)
      · rw [if_neg c6] at H;have c6b0 : decide (x13_1 < (l0_0.length : Int)) = false := decide_eq_false c6;clear c6;obtain rfl := Option.some.inj H
        go_wp2
        go_ret
        exact ⟨rW, eB⟩

/-! ### commute_shifted: function 54 -/
def commute_shifted.l0 : Nat → List (S78) → Int → List (S47) → Int → Int → List (S47) → List (S47) → Option ((List (S47)))
  | 0, _, _, _, _, _, _, _ => none
  | k + 1, x2, x3, x13, x14, x15, x205000, x207000 => if x15 < x14 then (if 0 ≤ x15 then (if x15 < (x13.length : Int) then ((commute_growth.f k x205000 x2 ((rd_T47 x13 x15).f0)).bind fun t209 => ((textpatch_Moved.f ((rd_T47 x13 x15).f0) ((rd_T47 x13 x15).f1) ((rd_T47 x13 x15).f2) (wrap64 (((rd_T47 x13 x15).f0) + (wrap64 (x3 * t209))))).bind fun bt210 => (if x207000.length < 2513169434916 then (commute_shifted.l0 k x2 x3 x13 x14 (wrap64 (x15 + 1)) x205000 (x207000 ++ [(⟨bt210.1, bt210.2.1, bt210.2.2⟩ : S47)])) else (none)))) else (none)) else (none)) else (some x207000)
def commute_shifted.f (k : Nat) (l0_0 : List (S47)) (l1_0 : List (S47)) (l2 : List (S78)) (a3 : Int) : Option ((List (S47))) := commute_shifted.l0 k l2 a3 l0_0 (l0_0.length : Int) 0 l1_0 ([] : List (S47))
theorem commute_shifted.mono_l : ∀ k, (∀ y0 y1 y2 y3 y4 y5 y6, LeO (commute_shifted.l0 k y0 y1 y2 y3 y4 y5 y6) (commute_shifted.l0 (k + 1) y0 y1 y2 y3 y4 y5 y6))
  | 0 => fun _ _ _ _ _ _ _ r h => by simp [commute_shifted.l0] at h
  | k + 1 => by
    have ih0 := commute_shifted.mono_l k
    · intro y0 y1 y2 y3 y4 y5 y6
      unfold commute_shifted.l0
      repeat' first
      | (with_reducible exact ih0 _ _ _ _ _ _ _)
      | (with_reducible exact commute_growth.mono _ _ _ _)
      | (with_reducible exact LeO.refl _)
      | (with_reducible exact LeO.none _)
      | (with_reducible refine LeO.ite ?_ ?_)
      | (with_reducible refine LeO.bind ?_ (fun _ => ?_))
      | exact ih0 _ _ _ _ _ _ _
      | exact commute_growth.mono _ _ _ _
      | exact LeO.none _
      | refine LeO.ite ?_ ?_
      | refine LeO.bind ?_ (fun _ => ?_)
theorem commute_shifted.mono : ∀ a0 a1 a2 a3 k, LeO (commute_shifted.f k a0 a1 a2 a3) (commute_shifted.f (k + 1) a0 a1 a2 a3) := by
  intro a0 a1 a2 a3 k
  have ih0 := commute_shifted.mono_l k
  unfold commute_shifted.f
  repeat' first
      | (with_reducible exact ih0 _ _ _ _ _ _ _)
      | (with_reducible exact commute_growth.mono _ _ _ _)
      | (with_reducible exact LeO.refl _)
      | (with_reducible exact LeO.none _)
      | (with_reducible refine LeO.ite ?_ ?_)
      | (with_reducible refine LeO.bind ?_ (fun _ => ?_))
      | exact ih0 _ _ _ _ _ _ _
      | exact commute_growth.mono _ _ _ _
      | exact LeO.none _
      | refine LeO.ite ?_ ?_
      | refine LeO.bind ?_ (fun _ => ?_)
def commute_shifted.T5 : Bool × List (List Nat × List Nat) := (true, [([], []), ([0], [0]), ([], []), ([], []), ([3], [3]), ([], []), ([], []), ([], []), ([], []), ([8], [8]), ([6, 7, 9], [6, 7, 9]), ([5, 10], [5, 10]), ([4, 11], [4, 11]), ([2, 12, 10], [2, 12]), ([13], [13]), ([1, 14, 13], [1, 14]), ([0, 1, 2, 3, 4, 5, 6, 7, 8, 9, 10, 11, 12, 13, 14, 15], []), ([16, 15, 15, 0, 1, 2, 3, 4, 5, 6, 7, 8, 9, 10, 11, 12, 13, 14, 15], [15, 16])])
def commute_shifted.B5 : List Nat := [0, 1, 0, 0, 8, 0, 0, 0, 0, 256, 960, 2016, 4088, 8188, 16380, 32767, 65535, 131071]
theorem commute_shifted.tab5 : rtab .any (opsOf Try.f54 5) = commute_shifted.T5 := by kernel_rfl
theorem commute_shifted.bits5 : waitsOk commute_shifted.T5.2 commute_shifted.B5 = true := by kernel_rfl
set_option maxHeartbeats 8000000 in
set_option maxRecDepth 100000 in
theorem commute_shifted.calls (k : Nat) (A0_0 : Option Addr) (c0_0 : Nat) (l0_0 : List (S47)) (A1_0 : Option Addr) (c1_0 : Nat) (l1_0 : List (S47)) (A2 : Option Addr) (c2 : Nat) (l2 : List (S78)) (a3 : Int) (r : List (S47)) (w : World) (hr0_0 : Kd.C k47 w A0_0 l0_0.length l0_0) (hc0_0 : l0_0.length ≤ c0_0) (hr1_0 : Kd.C k47 w A1_0 l1_0.length l1_0) (hc1_0 : l1_0.length ≤ c1_0) (hr2 : Kd.C k78 w A2 l2.length l2) (hc2 : l2.length ≤ c2) (h : commute_shifted.f k l0_0 l1_0 l2 a3 = some r) :
    Calls Try.prog 54 #[.agg #[.slice A0_0 l0_0.length c0_0], .agg #[.slice A1_0 l1_0.length c1_0], .slice A2 l2.length c2, .int .i64 a3] w fun e w' => ∃ v0_ : Value, e = .returned (.agg #[v0_]) ∧ Kd.S k47 47 w' w.heap.size (fun _ => True) v0_ r ∧ Below w.heap.size w w' := by
  have hu24 := Try.underlying24;have hu47 := Try.underlying47;have HR0_0 := Aside0.mk hr0_0;have HC0_0 := Aside0.mk hc0_0;clear hr0_0 hc0_0;have HR1_0 := Aside0.mk hr1_0;have HC1_0 := Aside0.mk hc1_0;clear hr1_0 hc1_0;have HR2 := Aside0.mk hr2;have HC2 := Aside0.mk hc2;clear hr2 hc2;have HB := Aside0.mk (Below.refl w.heap.size w);have H : (commute_shifted.l0 k l2 a3 l0_0 (l0_0.length : Int) 0 l1_0 ([] : List (S47))) = some r := h;clear h;have H' := Aside0.mk H;clear H
  go_enter Try.func54, Try.ntmps54
  go_wp2_with (first|((with_reducible refine gate_dst (N := 4) rfl ?_);refine bE 4 #[.slice A0_0 l0_0.length c0_0] 24 ?_;intro gb203 hg w5 hbox hb;have BK203 := Aside0.mk (hbox);have GW203 := gBe HB hg;have GE203 := gBe HB hg;replace HB := sBe HB hb;clear hb hbox hg)|((with_reducible refine gate_dst (N := 5) rfl ?_);refine bE 5 #[.slice A1_0 l1_0.length c1_0] 24 ?_;intro gb204 hg w6 hbox hb;have BK204 := Aside0.mk (hbox);have GW204 := gBe HB hg;have GE204 := gBe HB hg;have NB203_204 := nL BK203 hg;have NB204_203 := nG BK203 hg;replace BK203 := lJ BK203 hb;replace HB := sBe HB hb;clear hb hbox hg)|((with_reducible refine gate_dst (N := 8) rfl ?_);refine bE 8 #[.slice none 0 0] 24 ?_;intro gb205 hg w7 hbox hb;have BK205 := Aside0.mk (hbox);have GW205 := gBe HB hg;have GE205 := gBe HB hg;have NB203_205 := nL BK203 hg;have NB205_203 := nG BK203 hg;have NB204_205 := nL BK204 hg;have NB205_204 := nG BK204 hg;replace BK203 := lJ BK203 hb;replace BK204 := lJ BK204 hb;replace HB := sBe HB hb;clear hb hbox hg)|((with_reducible refine gate_dst (N := 9) rfl ?_);refine bE 9 #[.slice none 0 0] 24 ?_;intro gb206 hg w8 hbox hb;have BK206 := Aside0.mk (hbox);have GW206 := gBe HB hg;have GE206 := gBe HB hg;have NB203_206 := nL BK203 hg;have NB206_203 := nG BK203 hg;have NB204_206 := nL BK204 hg;have NB206_204 := nG BK204 hg;have NB205_206 := nL BK205 hg;have NB206_205 := nG BK205 hg;replace BK203 := lJ BK203 hb;replace BK204 := lJ BK204 hb;replace BK205 := lJ BK205 hb;replace HB := sBe HB hb;clear hb hbox hg;have hnb9 := eq_false NB203_204.out;have hnc9 := eq_false NB204_203.out;have hnb10 := eq_false NB203_205.out;have hnc10 := eq_false NB205_203.out;have hnb11 := eq_false NB203_206.out;have hnc11 := eq_false NB206_203.out;have hcz12_0 := hC BK203 0 (.slice A0_0 l0_0.length c0_0);have hfz12_0 := blk_frozen BK203.out 0))
  go_loopg [15] k (fun kq v15 w' => ∃ (x15_1 : Int) (x207000_1 : List (S47)) (u207000 : Value), v15 = .int .i64 x15_1 ∧ Aside0 (commute_shifted.l0 kq l2 a3 l0_0 (l0_0.length : Int) x15_1 l1_0 x207000_1 = some r) ∧ Aside0 (kq ≤ k) ∧ Aside0 (Kd.S k47 47 w' w.heap.size (fun _ => True) u207000 x207000_1) ∧ Bk w' gb203 24 #[(.slice A0_0 l0_0.length c0_0)] ∧ Bk w' gb204 24 #[(.slice A1_0 l1_0.length c1_0)] ∧ Bk w' gb205 24 #[(.slice none 0 0)] ∧ Bk w' gb206 24 #[u207000] ∧ Aside0 (Below w.heap.size w w'))
  case atStart => exact ⟨(0), (([] : List (S47))), (.slice none 0 0), (by first|rfl|(simp only [i64_w, i32_w];done)|(simp only [i64_w, i32_w];rfl)|(simp;done)|(simp [*];done)), H', ⟨Nat.le_refl _⟩, ⟨by first|exact Kd.S_nil _ _ _ _ _|exact Kd.N_nil _ _ _ _ _|exact Kd.V_nil _ _ _ _ _|exact Kd.Q_nil _ _ _ _ _|exact Kd.R_nil _ _ _ _ _⟩, ⟨kK⟩, ⟨kK⟩, ⟨kK⟩, ⟨kK⟩, ⟨eB⟩⟩
  case round =>
    clear H'
    try clear c1
    try clear c2
    try clear p2
    try clear c5
    try clear c9
    try clear c10
    try clear c11
    try clear hcz12_0
    try clear hfz12_0
    obtain ⟨x15_1, x207000_1, u207000, rfl, HA, HK1, HO_207000, BK203, BK204, BK205, BK206, HB⟩ := hrel
    cases gk with
    | zero => exact absurd HA.out (by simp [commute_shifted.l0])
    | succ k1 =>
      have H := HA.out;clear HA;simp only [commute_shifted.l0] at H
      by_cases c13 : x15_1 < (l0_0.length : Int)
      · rw [if_pos c13] at H;have c13b0 : decide (x15_1 < (l0_0.length : Int)) = true := decide_eq_true c13;clear c13
        by_cases c14 : 0 ≤ x15_1
        · rw [if_pos c14] at H;have c14b0 : decide (0 ≤ x15_1) = true := decide_eq_true c14;clear c14
          by_cases c15 : x15_1 < (l0_0.length : Int)
          · rw [if_pos c15] at H;have c15b0 : decide (x15_1 < (l0_0.length : Int)) = true := decide_eq_true c15;clear c15;replace H := Option.bind_eq_some_iff.mp H;obtain ⟨t209, A160, H⟩ := H;replace H : ((textpatch_Moved.f ((rd_T47 l0_0 x15_1).f0) ((rd_T47 l0_0 x15_1).f1) ((rd_T47 l0_0 x15_1).f2) (wrap64 (((rd_T47 l0_0 x15_1).f0) + (wrap64 (a3 * t209))))).bind fun bt210 => (if x207000_1.length < 2513169434916 then (commute_shifted.l0 k1 l2 a3 l0_0 (l0_0.length : Int) (wrap64 (x15_1 + 1)) l1_0 (x207000_1 ++ [(⟨bt210.1, bt210.2.1, bt210.2.2⟩ : S47)])) else (none))) = some r := H;have A16 := Aside0.mk A160;clear A160;replace H := Option.bind_eq_some_iff.mp H;obtain ⟨⟨t210, t211, t214⟩, A170, H⟩ := H;replace H : (if x207000_1.length < 2513169434916 then (commute_shifted.l0 k1 l2 a3 l0_0 (l0_0.length : Int) (wrap64 (x15_1 + 1)) l1_0 (x207000_1 ++ [(⟨t210, t211, t214⟩ : S47)])) else (none)) = some r := H;have A17 := Aside0.mk A170;clear A170
            by_cases c18 : x207000_1.length < 2513169434916
            · rw [if_pos c18] at H;have LMc18 := Aside0.mk c18;clear c18;obtain ⟨y217, hy217⟩ : ∃ y_ : List (S47), y_ = (x207000_1 ++ [(⟨t210, t211, t214⟩ : S47)]) := ⟨_, rfl⟩;replace H : (commute_shifted.l0 k1 l2 a3 l0_0 (l0_0.length : Int) (wrap64 (x15_1 + 1)) l1_0 y217) = some r := (by first|(rw [hy217];with_reducible exact H)|(have H2_ := (Option.bind_some _ _).symm.trans H;rw [hy217];with_reducible exact H2_)|(have H2_ := (Option.bind_some _ _).symm.trans H;with_reducible exact H2_)|with_reducible exact H|(rw [hy217];exact H)|exact H);have Ny217 := Aside0.mk hy217;clear hy217;have H' := Aside0.mk H;clear H;have p207 : 0 ≤ (x15_1 : Int) := dA;have q207 : x15_1 < (l0_0.length : Int) := dA;obtain ⟨ad207, A207_1, c207_1, A207_2, c207_2, e207, hx207_0, hx207_1, hx207_2, hl207_1, hi207_1, hl207_2, hi207_2⟩ := at_T47 HR0_0.out x15_1 p207 q207
              cases e207
              replace hx207_0 := (hX HB hx207_0:);replace hx207_1 := (hX HB hx207_1:);replace hx207_2 := (hX HB hx207_2:);have HR207_1 := Aside0.mk hi207_1;have HC207_1 := Aside0.mk hl207_1;clear hi207_1 hl207_1;have HR207_2 := Aside0.mk hi207_2;have HC207_2 := Aside0.mk hl207_2;clear hi207_2 hl207_2;replace p207 := eq_true p207;replace q207 := eq_true q207
              try go_wp2_with (first|((with_reducible refine gate_dst (N := 11) rfl ?_);refine bE 11 #[.int .i64 0, .slice none 0 0, .slice none 0 0] 47 ?_;intro gb208 hg w19 hbox hb;have BK208 := Aside0.mk (hbox);have GW208 := gBe HB hg;have GE208 := gBe HB hg;have NB203_208 := nL BK203 hg;have NB208_203 := nG BK203 hg;have NB204_208 := nL BK204 hg;have NB208_204 := nG BK204 hg;have NB205_208 := nL BK205 hg;have NB208_205 := nG BK205 hg;have NB206_208 := nL BK206 hg;have NB208_206 := nG BK206 hg;replace HO_207000 := Aside0.mk (Kd.S_below (Kd.S_elderB (sK HO_207000) gb208 (Nat.le_of_eq hg.symm)) hb);replace BK203 := lJ BK203 hb;replace BK204 := lJ BK204 hb;replace BK205 := lJ BK205 hb;replace BK206 := lJ BK206 hb;replace HB := sBe HB hb;clear hb hbox hg;have hnb20 := eq_false NB208_203.out;have hnc20 := eq_false NB203_208.out;have hnb21 := eq_false NB208_204.out;have hnc21 := eq_false NB204_208.out;have hnb22 := eq_false NB208_205.out;have hnc22 := eq_false NB205_208.out;have hnb23 := eq_false NB208_206.out;have hnc23 := eq_false NB206_208.out;have hcz24_0 := hC BK208 0 (.int .i64 0);have hcz24_1 := hC BK208 1 (.slice none 0 0);have hcz24_2 := hC BK208 2 (.slice none 0 0);have hfz24_0 := blk_frozen BK208.out 0;have hfz24_1 := blk_frozen BK208.out 1;have hfz24_2 := blk_frozen BK208.out 2))
              obtain ⟨w25, hW_⟩ : ∃ w_, w_ = (((w19.setCell ⟨gb208, 0, none⟩ (.int .i64 ((rd_T47 l0_0 x15_1).f0))).setCell ⟨gb208, 1, none⟩ (.slice A207_1 ((rd_T47 l0_0 x15_1).f1).length c207_1)).setCell ⟨gb208, 2, none⟩ (.slice A207_2 ((rd_T47 l0_0 x15_1).f2).length c207_2)) := ⟨_, rfl⟩;have n0_ : Aside0 (Kd.S k47 47 w25 w.heap.size (fun k_ => k_ ≠ gb208) u207000 x207000_1) := ⟨by rw [hW_];(with_reducible repeat (first|apply Kd.S_alloc|apply Kd.S_drewN|apply Kd.S_drew));exact fS HO_207000.out⟩;have n1_ : Bk w25 gb203 24 #[.slice (some ad207) l0_0.length c0_0] := ⟨by rw [hW_];exact kK⟩;have n2_ : Bk w25 gb204 24 #[.slice A1_0 l1_0.length c1_0] := ⟨by rw [hW_];exact kK⟩;have n3_ : Bk w25 gb205 24 #[.slice none 0 0] := ⟨by rw [hW_];exact kK⟩;have n4_ : Bk w25 gb206 24 #[u207000] := ⟨by rw [hW_];exact kK⟩;have n5_ : Bk w25 gb208 47 #[.int .i64 ((rd_T47 l0_0 x15_1).f0), .slice A207_1 ((rd_T47 l0_0 x15_1).f1).length c207_1, .slice A207_2 ((rd_T47 l0_0 x15_1).f2).length c207_2] := ⟨by rw [hW_];exact kK⟩;have n6_ : Aside0 (Below w.heap.size w w25) := ⟨by rw [hW_];exact eB⟩;(try clear HO_207000);(try clear BK203);(try clear BK204);(try clear BK205);(try clear BK206);(try clear BK208);(try clear HB);(try rw [← hW_]);clear hW_;have HO_207000 := n0_;have BK203 := n1_;have BK204 := n2_;have BK205 := n3_;have BK206 := n4_;have BK208 := n5_;have HB := n6_;clear n0_ n1_ n2_ n3_ n4_ n5_ n6_;replace HO_207000 := Aside0.mk (Kd.S_drew HO_207000.out);replace BK203 := Aside0.mk (blk_drew BK203.out);replace BK204 := Aside0.mk (blk_drew BK204.out);replace BK205 := Aside0.mk (blk_drew BK205.out);replace BK206 := Aside0.mk (blk_drew BK206.out);replace BK208 := Aside0.mk (blk_drew BK208.out);replace HB := Aside0.mk (below_drew1 HB.out);refine start_ (n := 18) (S := fun w' => w'.cell? ⟨gb206, 0, none⟩ = some (u207000) ∧ w'.cell? ⟨gb208, 0, none⟩ = some (.int .i64 ((rd_T47 l0_0 x15_1).f0)) ∧ w'.cell? ⟨gb208, 1, none⟩ = some (.slice A207_1 ((rd_T47 l0_0 x15_1).f1).length c207_1) ∧ w'.cell? ⟨gb208, 2, none⟩ = some (.slice A207_2 ((rd_T47 l0_0 x15_1).f2).length c207_2) ∧ w'.cell? ⟨gb204, 0, none⟩ = some (.slice A1_0 l1_0.length c1_0)) (ds := [17]) (mb 18 0) (by kernel_rfl) rfl (by kernel_rfl) ⟨(blk_cell BK206.out 0).trans rfl, (blk_cell BK208.out 0).trans rfl, (blk_cell BK208.out 1).trans rfl, (blk_cell BK208.out 2).trans rfl, (blk_cell BK204.out 0).trans rfl⟩ (fun hHeld => ?_);refine with_tabW commute_shifted.tab5 commute_shifted.bits5 (fun HT_ HW_ => ?_);generalize w25.drew = w26 at HO_207000 BK203 BK204 BK205 BK206 BK208 HB hHeld ⊢;refine pA 0 19 (mb 18 1) HT_ rfl rfl ?_;refine pA 3 22 (mb 18 9) HT_ rfl rfl ?_;refine pA 5 24 (mb 18 41) HT_ rfl rfl ?_;refine pA 7 26 (mb 18 169) HT_ rfl rfl ?_;refine pA 8 27 (mb 18 425) HT_ rfl rfl ?_;refine tA 1 20 (mb 18 427) HT_ HW_ hHeld rfl rfl (by rintro w' ⟨s0, s1, s2, s3, s4⟩;go_simp;with_reducible rfl) ?_;refine tA 2 21 (mb 18 431) HT_ HW_ hHeld rfl rfl (by rintro w' ⟨s0, s1, s2, s3, s4⟩;go_simp;with_reducible rfl) ?_;refine tA 4 23 (mb 18 447) HT_ HW_ hHeld rfl rfl (by rintro w' ⟨s0, s1, s2, s3, s4⟩;go_simp;with_reducible rfl) ?_;refine tA 6 25 (mb 18 511) HT_ HW_ hHeld rfl rfl (by rintro w' ⟨s0, s1, s2, s3, s4⟩;go_simp;with_reducible rfl) ?_;refine tA 9 28 (mb 18 1023) HT_ HW_ hHeld rfl rfl (by rintro w' ⟨s0, s1, s2, s3, s4⟩;go_simp;with_reducible rfl) ?_;refine one_ (i := 10) (N := some 29) (mb 18 2047) rfl rfl (one_of HT_.out (by kernel_rfl)) (by decide) (fun K hK => ?_);refine goes_ Try.func66 (by kernel_rfl) rfl #[.agg #[.slice A1_0 l1_0.length c1_0], .slice A2 l2.length c2, .int .i64 ((rd_T47 l0_0 x15_1).f0)] (by rfl) rfl rfl mA ?_
              with_reducible refine (commute_growth.calls k1 _ _ l1_0 _ _ l2 ((rd_T47 l0_0 x15_1).f0) t209 _ ?side1 ?side2 ?side3 ?side4 A16.out).mono ?_
              (case side1 => exact cBe HR1_0);(case side2 => exact HC1_0.out);(case side3 => exact cBe HR2);(case side4 => exact HC2.out)
              rintro e w27 ⟨rfl, hb⟩
              refine ⟨_, rfl, ?_⟩;replace HO_207000 := Aside0.mk (Kd.S_below (sK HO_207000) hb);replace BK203 := lJ BK203 hb;replace BK204 := lJ BK204 hb;replace BK205 := lJ BK205 hb;replace BK206 := lJ BK206 hb;replace BK208 := lJ BK208 hb;replace HB := sBe HB hb;(try clear hb);refine hK.out _ _ ⟨(blk_cell BK206.out 0).trans rfl, (blk_cell BK208.out 0).trans rfl, (blk_cell BK208.out 1).trans rfl, (blk_cell BK208.out 2).trans rfl, (blk_cell BK204.out 0).trans rfl⟩ (fun hHeld => ?_);clear hK K;refine nmA (some 29) ?_;refine pA 11 30 (mb 18 4095) HT_ rfl rfl ?_;refine pA 12 31 (mb 18 8191) HT_ rfl rfl ?_;refine one_ (i := 13) (N := some 32) (mb 18 16383) rfl rfl (one_of HT_.out (by kernel_rfl)) (by decide) (fun K hK => ?_);refine goes_ Try.func65 (by kernel_rfl) rfl #[.agg #[.int .i64 ((rd_T47 l0_0 x15_1).f0), .slice A207_1 ((rd_T47 l0_0 x15_1).f1).length c207_1, .slice A207_2 ((rd_T47 l0_0 x15_1).f2).length c207_2], .int .i64 (wrap64 (((rd_T47 l0_0 x15_1).f0) + (wrap64 (a3 * t209))))] (by rfl) rfl rfl mA ?_
              with_reducible refine (textpatch_Moved.calls ((rd_T47 l0_0 x15_1).f0) _ _ ((rd_T47 l0_0 x15_1).f1) _ _ ((rd_T47 l0_0 x15_1).f2) (wrap64 (((rd_T47 l0_0 x15_1).f0) + (wrap64 (a3 * t209)))) t210 t211 t214 _ ?side1 ?side2 ?side3 ?side4 A17.out).mono ?_
              (case side1 => exact cBe HR207_1);(case side2 => exact HC207_1.out);(case side3 => exact cBe HR207_2);(case side4 => exact HC207_2.out)
              rintro e w28 ⟨v212, v215, rfl, ho0, ho1, hb⟩
              refine ⟨_, rfl, ?_⟩;have HO213 := Aside0.mk (Kd.R_lower ho0 (below_size eB));have HO216 := Aside0.mk (Kd.R_lower ho1 (below_size eB));replace HO_207000 := Aside0.mk (Kd.S_mono (Kd.S_told (Kd.S_told (Kd.S_old (sK HO_207000) hb) (Kd.R_base ho0)) (Kd.R_base ho1)) (fun _ h_ => h_.1));replace BK203 := lJ BK203 hb;replace BK204 := lJ BK204 hb;replace BK205 := lJ BK205 hb;replace BK206 := lJ BK206 hb;replace BK208 := lJ BK208 hb;replace HB := sBe HB hb;(try clear hb ho0 ho1);obtain ⟨Ao30, co30, eo30⟩ := Kd.R_slice HO213.out
              (first|subst eo30|(injection eo30 with f1_ f2_ f3_;have f4_ := f1_.symm;have f5_ := f3_.symm;clear f1_ f2_ f3_;subst f4_;subst f5_))
              obtain ⟨Ao31, co31, eo31⟩ := Kd.R_slice HO216.out
              (first|subst eo31|(injection eo31 with f1_ f2_ f3_;have f4_ := f1_.symm;have f5_ := f3_.symm;clear f1_ f2_ f3_;subst f4_;subst f5_))
              refine hK.out _ _ ⟨(blk_cell BK206.out 0).trans rfl, (blk_cell BK208.out 0).trans rfl, (blk_cell BK208.out 1).trans rfl, (blk_cell BK208.out 2).trans rfl, (blk_cell BK204.out 0).trans rfl⟩ (fun hHeld => ?_);clear hK K;refine nmA (some 32) ?_;refine one_ (i := 14) (N := some 33) (mb 18 32767) rfl rfl (one_of HT_.out (by kernel_rfl)) (by decide) (fun K hK => ?_);refine value_ (w1 := ?_) (v := ?_) (by rfl) rfl ?_ ?_;rotate_left 2
              · go_simp
                constructor
                · rfl
                · rfl
              refine hK.out _ _ ⟨(blk_cell (blk_alloc BK206.out _) 0).trans rfl, (blk_cell (blk_alloc BK208.out _) 0).trans rfl, (blk_cell (blk_alloc BK208.out _) 1).trans rfl, (blk_cell (blk_alloc BK208.out _) 2).trans rfl, (blk_cell (blk_alloc BK204.out _) 0).trans rfl⟩ (fun hHeld => ?_);clear hK K;refine nmA (some 33) ?_;refine one_ (i := 15) (N := some 34) (mb 18 65535) rfl rfl (one_of HT_.out (by kernel_rfl)) (by decide) (fun K hK => ?_);refine Kd.S_append_step k47 (w0 := w) w.heap.size (by rfl) (.tmp 20) (.tmp 33) 22 47 (.agg #[(.int .i64 0), (.slice none 0 0), (.slice none 0 0)]) 56 rfl Try.underlying22 info47 rfl (by decide) (by omega) u207000 x207000_1 (⟨t210, t211, t214⟩ : S47) [.int .i64 t210, .slice Ao30 t211.length co30, .slice Ao31 t214.length co31] (fun k_ => k_ ≠ gb208) (fun k_ => some k_ = ob Ao30 t211.length co30 ∨ some k_ = ob Ao31 t214.length co31) rfl rfl ?aP (fun k_ hk_ => hk_.elim (fun h_ => ((Kd.R_mono (ok' := fun k_ => ((fun k_ => k_ ≠ gb208)) k_ ∧ some k_ ≠ (u207000 : Value).ownBlock) (Kd.R_types (Kd.R_apart' (HO213.out) (Kd.S_typed HO_207000.out) (by decide)) BK208.out (by decide)) (fun k_ hk => ⟨hk.2, hk.1.2⟩))).1 k_ h_.symm) (fun h_ => ((Kd.R_mono (ok' := fun k_ => ((fun k_ => k_ ≠ gb208)) k_ ∧ some k_ ≠ (u207000 : Value).ownBlock) (Kd.R_types (Kd.R_apart' (HO216.out) (Kd.S_typed HO_207000.out) (by decide)) BK208.out (by decide)) (fun k_ hk => ⟨hk.2, hk.1.2⟩))).1 k_ h_.symm)) ?aF ?aO ?aB ?aS ?aL ?_;(case aP => exact k47_mkM _ _ _ (⟨t210, t211, t214⟩ : S47) (Kd.R_mono (Kd.R_tight rfl (Kd.R_mono (ok' := fun k_ => ((fun k_ => k_ ≠ gb208)) k_ ∧ some k_ ≠ (u207000 : Value).ownBlock) (Kd.R_types (Kd.R_apart' (HO213.out) (Kd.S_typed HO_207000.out) (by decide)) BK208.out (by decide)) (fun k_ hk => ⟨hk.2, hk.1.2⟩))) (fun _ h_ => Or.inl h_)) (Kd.R_mono (Kd.R_tight rfl (Kd.R_mono (ok' := fun k_ => ((fun k_ => k_ ≠ gb208)) k_ ∧ some k_ ≠ (u207000 : Value).ownBlock) (Kd.R_types (Kd.R_apart' (HO216.out) (Kd.S_typed HO_207000.out) (by decide)) BK208.out (by decide)) (fun k_ hk => ⟨hk.2, hk.1.2⟩))) (fun _ h_ => Or.inr (h_))));(case aB => exact eB);(case aF => exact (fun k_ hk => Kd.freshB (g := gb208) (o := .cells #[.int .i64 ((rd_T47 l0_0 x15_1).f0), .slice A207_1 ((rd_T47 l0_0 x15_1).f1).length c207_1, .slice A207_2 ((rd_T47 l0_0 x15_1).f2).length c207_2] 47 (0, 0)) kK k_ hk));(case aO => exact (sM HO_207000 (fun k_ hk => ⟨hk.1.1, fun e_ => e_.elim (fun h_ => hk.1.2 h_) (fun h_ => hk.2 h_)⟩)));(case aS => exact (below_size eB));(case aL => have := LMc18.out;omega)
              intro v218 w29 ho hb hg hat
              rw [← Ny217.out] at ho;have n0_ := Aside0.mk (blk_grown (g := gb203) (o := .cells #[.slice (some ad207) l0_0.length c0_0] 24 (0, 0)) kK hg (Kd.S_ne HO_207000.out BK203.out (by decide)));have n1_ := Aside0.mk (blk_grown (g := gb204) (o := .cells #[.slice A1_0 l1_0.length c1_0] 24 (0, 0)) kK hg (Kd.S_ne HO_207000.out BK204.out (by decide)));have n2_ := Aside0.mk (blk_grown (g := gb205) (o := .cells #[.slice none 0 0] 24 (0, 0)) kK hg (Kd.S_ne HO_207000.out BK205.out (by decide)));have n3_ := Aside0.mk (blk_grown (g := gb206) (o := .cells #[u207000] 24 (0, 0)) kK hg (Kd.S_ne HO_207000.out BK206.out (by decide)));have n4_ := Aside0.mk (blk_grown (g := gb208) (o := .cells #[.int .i64 ((rd_T47 l0_0 x15_1).f0), .slice A207_1 ((rd_T47 l0_0 x15_1).f1).length c207_1, .slice A207_2 ((rd_T47 l0_0 x15_1).f2).length c207_2] 47 (0, 0)) kK hg (Kd.S_away HO_207000.out (fun _ hk => hk.1.1)));have n5_ := Aside0.mk (hb);have n6_ := Aside0.mk (ho);clear BK203;clear BK204;clear BK205;clear BK206;clear BK208;clear HB;clear HO_207000;clear HO213;clear HO216;have BK203 := n0_;have BK204 := n1_;have BK205 := n2_;have BK206 := n3_;have BK208 := n4_;have HB := n5_;have HO219 := n6_;clear n0_ n1_ n2_ n3_ n4_ n5_ n6_;clear ho hb hg hat;obtain ⟨Ao32, co32, eo32⟩ := Kd.S_slice HO219.out
              (first|subst eo32|(injection eo32 with f1_ f2_ f3_;have f4_ := f1_.symm;have f5_ := f3_.symm;clear f1_ f2_ f3_;subst f4_;subst f5_))
              refine hK.out _ _ ⟨(blk_cell BK206.out 0).trans rfl, (blk_cell BK208.out 0).trans rfl, (blk_cell BK208.out 1).trans rfl, (blk_cell BK208.out 2).trans rfl, (blk_cell BK204.out 0).trans rfl⟩ (fun hHeld => ?_);clear hK K;refine nmA (some 34) ?_;refine pA 16 35 (mb 18 131071) HT_ rfl rfl ?_;refine last_ (i := 17) (N := none) (mb 18 262143) rfl rfl (one_of HT_.out (by kernel_rfl)) (by decide) (fun K hK => ?_);have hs33 : w29.cell? ⟨gb206, 0, none⟩ = some (u207000) := (blk_cell BK206.out 0).trans rfl;have hfs33 := blk_frozen BK206.out 0;have := NB203_206.out;have := NB204_206.out;have := NB205_206.out;have := NB208_206.out;have := NB206_203.out;have := NB206_204.out;have := NB206_205.out;have := NB206_208.out;refine skip_ (w1 := ?_) (by rfl) rfl ?_ ?_;rotate_left
              · go_simp
                rfl
              refine hK.out _ _ ?_;clear hK K;refine done_ (done_of HT_.out (by kernel_rfl)) ?_
              try go_wp2
              go_roundg k1
              case measure => have := HK1.out;omega
              case rel => exact ⟨(wrap64 (x15_1 + 1)), (y217), (.slice Ao32 y217.length co32), (by first|rfl|(simp only [i64_w, i32_w];done)|(simp only [i64_w, i32_w];rfl)|(simp;done)|(simp [*];done)), H', ⟨by have := HK1.out;omega⟩, ⟨by (with_reducible repeat (first|apply Kd.S_alloc|apply Kd.S_drewN|apply Kd.S_drew));exact fS (Kd.S_types HO219.out BK206.out (by decide))⟩, ⟨kK⟩, ⟨kK⟩, ⟨kK⟩, ⟨kK⟩, ⟨eB⟩⟩
            · rw [if_neg c18] at H;exact absurd H (by simp)
          · rw [if_neg c15] at H;exact absurd H (by simp)
        · rw [if_neg c14] at H;exact absurd H (by simp)
      · rw [if_neg c13] at H;have c13b0 : decide (x15_1 < (l0_0.length : Int)) = false := decide_eq_false c13;clear c13;obtain rfl := Option.some.inj H;have hnb34 := eq_false NB206_203.out;have hnc34 := eq_false NB203_206.out;have hnb35 := eq_false NB206_204.out;have hnc35 := eq_false NB204_206.out;have hnb36 := eq_false NB206_205.out;have hnc36 := eq_false NB205_206.out;have hcz37_0 : wr.cell? ⟨gb206, 0, none⟩ = some (u207000) := (blk_cell BK206.out 0).trans rfl;have hfz37_0 := blk_frozen BK206.out 0;obtain ⟨Ao38, co38, eo38⟩ := Kd.S_slice HO_207000.out;subst eo38;have hnb39 := eq_false NB205_203.out;have hnc39 := eq_false NB203_205.out;have hnb40 := eq_false NB205_204.out;have hnc40 := eq_false NB204_205.out;have hcz41_0 : wr.cell? ⟨gb205, 0, none⟩ = some (.slice none 0 0) := (blk_cell BK205.out 0).trans rfl;have hfz41_0 := blk_frozen BK205.out 0
        go_wp2
        refine bodyPost_ret (results_cell_row rfl _ _ gb205 24 #[.slice Ao38 x207000_1.length co38] (0, 0) _ rfl kK Try.underlying24 rfl (by kernel_rfl)) rfl ?_;exact ⟨_, rW, by (with_reducible repeat (first|apply Kd.S_alloc|apply Kd.S_drewN|apply Kd.S_drew));exact Kd.S_mono (Kd.S_far (p := ⟨gb205, 0, none⟩) (Kd.S_types HO_207000.out BK205.out (by decide)) (fun _ hk => hk.2) (.slice Ao38 x207000_1.length co38)) (fun _ hk => trivial), eB⟩

end Go.Proofs.Ytdnnkhogpobjbaa.PQ
