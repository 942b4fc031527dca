/- Printed by a program of this session out of the translation: Lean functions for Go functions, and proofs that the Go functions answer the same. -/
import Derived.Test.YtifkadmljokffaaPB0
import Derived.Test.YtifkadmljokffaaPB1
import Derived.Test.YtifkadmljokffaaPB2
namespace Go.Proofs.Ytifkadmljokffaa.PB
open Go.RowKit Go.Proofs.Ytifkadmljokffaa.Pre Go.Proofs.YtifkadmljokffaaW.PrintWords Go.Proofs.YtifkadmljokffaaW.PrintLast Go.Proofs.YtifkadmljokffaaW.PrintMore
attribute [local go_sem] max2_int min2_int max_two min_two max_three min_three max_four min_four   -- for this text's walks alone
set_option linter.unusedVariables false
set_option linter.unusedSimpArgs false

attribute [local go_sem high] eqA24
/-! ### diff_Script: function 21 -/
def diff_Script.f (l0 : List ByteArray) (l1 : List ByteArray) : Option ((List (S70)) × Int × Int) :=  some (((scriptOr l0 l1).1).map (fun h => (⟨h.1, h.2.1, h.2.2⟩ : S70)), (scriptOr l0 l1).2)
theorem diff_Script_info9 : (Try.prog.info? 9).map (fun i => (i.zero, i.size, i.bytes)) = some (some (.string ⟨#[]⟩), 1, 16) := by kernel_rfl
section
attribute [local irreducible] wpStill
set_option maxHeartbeats 40000000 in
set_option maxRecDepth 100000 in
theorem diff_Script_steps (l0 : List ByteArray) (w0 : World) (J : List Evt → World → (Nat → Prop) → Prop) (pb : Nat)
    (hJ1 : ∀ es W M W', J es W M → Below W.heap.size W W' → J es W' M)
    (hJ0 : ∀ es W M, J es W M → ∀ k, M k → k < W.heap.size)
    (hK : ∀ es (i : Nat) W M, i < l0.length → es.length ≤ 500 → J es W M → Calls Try.prog 46 #[.int .i64 i] W fun e W' => e = .returned (.tuple #[]) ∧ ∃ M', J (es ++ [.inl i]) W' M' ∧ Fr M W W' ∧ ∀ k, M' k → M k ∨ W.heap.size ≤ k)
    (hC : ∀ es s o n vo vn W M B, w0.heap.size ≤ B → J es W M → Kd.string.R 9 W B (fun k => ¬ M k) vo o → Kd.string.R 9 W B (fun k => ¬ M k ∧ some k ≠ vo.ownBlock) vn n → es.length ≤ 500 → Calls Try.prog 47 #[.agg #[.int .i64 s, vo, vn], .pointer (some ⟨pb, 0, none⟩)] W fun e W' => e = .returned (.tuple #[]) ∧ ∃ M', J (es ++ [.inr (s, o, n)]) W' M' ∧ Fr M W W' ∧ ∀ k, M' k → M k ∨ W.heap.size ≤ k ∨ some k = vo.ownBlock ∨ some k = vn.ownBlock)
    (A0 : Option Addr) (c0 : Nat) (A1 : Option Addr) (c1 : Nat) (l1 : List ByteArray) (W : World) (M : Nat → Prop) (hm : l0.length ≤ 120) (hn : l1.length ≤ 120)
    (hr0 : Kd.C Kd.string w0 A0 l0.length l0) (hc0 : l0.length ≤ c0) (hr1 : Kd.C Kd.string w0 A1 l1.length l1) (hc1 : l1.length ≤ c1) (hB : Below w0.heap.size w0 W) (hM : ∀ k, M k → w0.heap.size ≤ k) (hJ : J [] W M) :
    Calls Try.prog 43 #[.slice A0 l0.length c0, .slice A1 l1.length c1, .func (.func 46) #[] #[], .func (.func 47) #[] #[.pointer (some ⟨pb, 0, none⟩)]] W fun e W' => e = .returned (.tuple #[]) ∧ ∃ M', J (evs l0 l1) W' M' ∧ Fr M W W' ∧ ∀ k, M' k → M k ∨ W.heap.size ≤ k := by
  have HR0 := Aside0.mk hr0
  have HR1 := Aside0.mk hr1
  have HJ1 := Aside0.mk hJ1
  have HJ0 := Aside0.mk hJ0
  have HK := Aside0.mk hK
  have HC := Aside0.mk hC
  have HB0 := Aside0.mk hB
  have HM := Aside0.mk hM
  have HJ := Aside0.mk hJ
  clear hr0 hr1 hJ1 hJ0 hK hC hB hM hJ
  go_enter Try.func43, Try.ntmps43
  go_wp2_with fail
  refine (diff_measure.calls A0 c0 l0 A1 c1 l1 (lcsTab l0 l1) _ (Kd.C_below HR0.out HB0.out) hc0 (Kd.C_below HR1.out HB0.out) hc1 (if_pos ⟨by omega, by omega⟩)).mono ?_
  rintro e W1 ⟨v, rfl, hS, hb⟩
  obtain ⟨g, cap, hv, hgb, hgl, _⟩ := Kd.S_form hS (by rw [show (lcsTab l0 l1).length = l0.length + 1 from tab_length _ _ _]; omega)
  rw [show (lcsTab l0 l1).length = l0.length + 1 from tab_length _ _ _] at hv
  subst hv
  have HS := Aside0.mk (Kd.S_mono (Kd.S_bound hS) (ok' := fun k => ¬ M k) (fun k hk hm2 => by have := HJ0.out _ _ _ HJ.out k hm2; have := hk.2.1; omega))
  have HJc := Aside0.mk (HJ1.out _ _ _ W1 HJ.out hb)
  have HF := Aside0.mk (Fr.of_below (M := M) hb)
  clear hS hb HJ hgl
  go_wp2
  go_loopw [9, 10] (fun v9 v10 wr => ∃ (i j : Nat) (es : List Evt) (Mc : Nat → Prop), v9 = .int .i64 i ∧ v10 = .int .i64 j ∧ Aside0 (i ≤ l0.length ∧ j ≤ l1.length ∧ es.length ≤ 2 * (i + j)) ∧ Aside0 (es ++ ev i i [] [] (al (l0.drop i) (l1.drop j)) = evs l0 l1) ∧ Aside0 (J es wr Mc) ∧ Aside0 (Fr M W wr) ∧ Aside0 (∀ k, Mc k → M k ∨ W.heap.size ≤ k) ∧ Aside0 (Kd.S (Kd.slice 3 (Kd.int .i64)) 63 wr W.heap.size (fun k => ¬ Mc k) (.slice (some ⟨g, 0, none⟩) (l0.length + 1) cap) (lcsTab l0 l1))) (fun v9 v10 wr => l0.length + l1.length - (intOf v9).toNat - (intOf v10).toNat)
  case atStart => exact ⟨0, 0, [], M, rfl, rfl, ⟨by simp⟩, ⟨rfl⟩, HJc, HF, ⟨fun k hk => .inl hk⟩, HS⟩
  case round =>
    clear HS HJc HF
    obtain ⟨i, j, es, Mc, rfl, rfl, HI, HE, HJ, HF, HMc, HS⟩ := hrel
    obtain ⟨hi, hj, hes⟩ := HI.out
    by_cases hend : i = l0.length ∧ j = l1.length
    · have hni : ¬ i < l0.length := by omega
      have hnj : ¬ j < l1.length := by omega
      have hfin : es = evs l0 l1 := by
        rw [← HE.out, hend.1, hend.2, List.drop_length, List.drop_length, al_nil, ev_nil, flushH_nil, List.append_nil]
      go_wp2
      go_end0
      exact ⟨rfl, Mc, hfin ▸ HJ.out, HF.out, HMc.out⟩
    · have HB := Aside0.mk (Fr.below HB0.out HF.out HM.out HB0.out.size)
      have HOR := Aside0.mk (show i < l0.length ∨ j < l1.length by omega)
      clear hend
      go_upto_region 2 with (fail)
      go_cut [24] (fun v24 wc => v24 = .bool true ∧ wc = wr)
      case first =>
        rcases HOR.out with h | h
        · go_wp2
          go_meet
          case rel => exact ⟨rfl, rfl⟩
        · by_cases h2 : i < l0.length
          · go_wp2
            go_meet
            case rel => exact ⟨rfl, rfl⟩
          · go_wp2
            go_meet
            case rel => exact ⟨rfl, rfl⟩
      case rest =>
        obtain ⟨rfl, rfl⟩ := hcut
        go_wp2
        obtain ⟨wo, rfl⟩ : ∃ wo : World, wo = wc := ⟨_, rfl⟩
        have HH := Aside0.mk (heap_alloc_new wo (.cells #[.int .i64 i, .slice none 0 0, .slice none 0 0] 70))
        have HBL := Aside0.mk (below_alloc (Below.refl wo.heap.size wo) (.cells #[.int .i64 i, .slice none 0 0, .slice none 0 0] 70))
        go_loopw [9, 10] (fun v9 v10 w2 => ∃ (p q : Nat) (o n : List ByteArray) (vo vn : Value), v9 = .int .i64 p ∧ v10 = .int .i64 q ∧ Aside0 (p = i + o.length ∧ q = j + n.length ∧ p ≤ l0.length ∧ q ≤ l1.length) ∧ Aside0 (es ++ ev p i o n (al (l0.drop p) (l1.drop q)) = evs l0 l1) ∧ Aside0 (w2.heap[wo.heap.size]? = some (.cells #[.int .i64 i, vo, vn] 70 (0, 0))) ∧ Aside0 (Kd.string.R 9 w2 (wo.heap.size + 1) (fun _ => True) vo o) ∧ Aside0 (Kd.string.R 9 w2 (wo.heap.size + 1) (fun k => True ∧ some k ≠ vo.ownBlock) vn n) ∧ Aside0 (Below wo.heap.size wo w2)) (fun v9 v10 w2 => l0.length + l1.length - (intOf v9).toNat - (intOf v10).toNat)
        case atStart => exact ⟨i, j, [], [], .slice none 0 0, .slice none 0 0, rfl, rfl, ⟨rfl, rfl, hi, hj⟩, HE, HH, ⟨Kd.R_nil _ _ _ _ _⟩, ⟨Kd.R_nil _ _ _ _ _⟩, HBL⟩
        case round =>
          clear HH HBL
          obtain ⟨p, q, o, n, vo, vn, rfl, rfl, HP, HEV, HH, HO, HN, HBL⟩ := hrel
          obtain ⟨hp1, hq1, hp2, hq2⟩ := HP.out
          have HP1 := Aside0.mk hp1
          have HQ1 := Aside0.mk hq1
          clear hp1 hq1
          have HBw := Aside0.mk (HB.out.trans (HBL.out.mono HB.out.size))
          go_upto_region 4 with (fail)
          go_cut [59] (fun v59 w3 => ∃ cb, v59 = .bool cb ∧ (!calm (l0.drop p) (l1.drop q)) = cb ∧ w3 = wr.drew)
          case first =>
            by_cases hp : p < l0.length
            · obtain ⟨ad0, e0, hx0⟩ := Kd.at_string HR0.out (p : Int) (by omega) (by omega)
              cases e0
              rw [Int.toNat_natCast] at hx0
              replace hx0 := (HBw.out.cell (World.block_lt_of_cell? w0 _ hx0)).trans hx0
              have hd0 := rdOf_drop ByteArray.empty l0 p hp
              by_cases hq : q < l1.length
              · obtain ⟨ad1, e1, hx1⟩ := Kd.at_string HR1.out (q : Int) (by omega) (by omega)
                cases e1
                rw [Int.toNat_natCast] at hx1
                replace hx1 := (HBw.out.cell (World.block_lt_of_cell? w0 _ hx1)).trans hx1
                have hd1 := rdOf_drop ByteArray.empty l1 q hq
                have HCM : Aside0 ((!calm (l0.drop p) (l1.drop q)) = ((rdOf ByteArray.empty l0 (p : Int)).toList != (rdOf ByteArray.empty l1 (q : Int)).toList)) := ⟨by rw [hd0, hd1]; simp only [calm, bne, beq_toList]⟩
                generalize rdOf ByteArray.empty l0 (p : Int) = s at *
                generalize rdOf ByteArray.empty l1 (q : Int) = t at *
                have hpe : ((p : Int) == (l0.length : Int)) = false := by simp; omega
                have hqe : ((q : Int) == (l1.length : Int)) = false := by simp; omega
                clear hd0 hd1
                refine still_drew (by kernel_rfl) (by kernel_rfl) ?_
                iterate 5 (refine still_yes (by kernel_rfl) (fun K hK => ?_); go_simp; refine hK _ ?_; clear hK K)
                iterate 4 (refine still_no (by kernel_rfl) ?_; simp only [Act.put, List.setIfInBounds_toArray, List.set_cons_zero, List.set_cons_succ])
                iterate 24 (refine still_yes (by kernel_rfl) (fun K hK => ?_); go_simp; refine hK _ ?_; clear hK K)
                refine wpStill_nil ?_
                go_wp2
                go_meet
                case rel => exact ⟨_, rfl, by rw [HCM.out]; first | done | rfl, rfl⟩
              · have hqe : ((q : Int) == (l1.length : Int)) = true := by simp; omega
                have hpe : ((p : Int) == (l0.length : Int)) = false := by simp; omega
                have HCM : Aside0 ((!calm (l0.drop p) (l1.drop q)) = true) := ⟨by rw [hd0, List.drop_of_length_le (show l1.length ≤ q by omega)]; rfl⟩
                clear hd0
                refine still_drew (by kernel_rfl) (by kernel_rfl) ?_
                iterate 5 (refine still_yes (by kernel_rfl) (fun K hK => ?_); go_simp; refine hK _ ?_; clear hK K)
                iterate 4 (refine still_no (by kernel_rfl) ?_; simp only [Act.put, List.setIfInBounds_toArray, List.set_cons_zero, List.set_cons_succ])
                iterate 2 (refine still_yes (by kernel_rfl) (fun K hK => ?_); go_simp; refine hK _ ?_; clear hK K)
                iterate 5 (refine still_yes (by kernel_rfl) (fun K hK => ?_); go_simp; refine hK _ ?_; clear hK K)
                iterate 4 (refine still_yes (by kernel_rfl) (fun K hK => ?_); go_simp; refine hK _ ?_; clear hK K)
                iterate 2 (refine still_yes (by kernel_rfl) (fun K hK => ?_); go_simp; refine hK _ ?_; clear hK K)
                iterate 9 (refine still_no (by kernel_rfl) ?_; simp only [Act.put, List.setIfInBounds_toArray, List.set_cons_zero, List.set_cons_succ])
                iterate 2 (refine still_yes (by kernel_rfl) (fun K hK => ?_); go_simp; refine hK _ ?_; clear hK K)
                refine wpStill_nil ?_
                go_wp2
                go_meet
                case rel => exact ⟨_, rfl, by rw [HCM.out], rfl⟩
            · have hpe : ((p : Int) == (l0.length : Int)) = true := by simp; omega
              by_cases hq : q < l1.length
              · have hd1 := rdOf_drop ByteArray.empty l1 q hq
                have hqe : ((q : Int) == (l1.length : Int)) = false := by simp; omega
                have HCM : Aside0 ((!calm (l0.drop p) (l1.drop q)) = true) := ⟨by rw [hd1, List.drop_of_length_le (show l0.length ≤ p by omega)]; rfl⟩
                clear hd1
                refine still_drew (by kernel_rfl) (by kernel_rfl) ?_
                iterate 5 (refine still_yes (by kernel_rfl) (fun K hK => ?_); go_simp; refine hK _ ?_; clear hK K)
                iterate 4 (refine still_yes (by kernel_rfl) (fun K hK => ?_); go_simp; refine hK _ ?_; clear hK K)
                iterate 2 (refine still_yes (by kernel_rfl) (fun K hK => ?_); go_simp; refine hK _ ?_; clear hK K)
                iterate 5 (refine still_yes (by kernel_rfl) (fun K hK => ?_); go_simp; refine hK _ ?_; clear hK K)
                iterate 4 (refine still_no (by kernel_rfl) ?_; simp only [Act.put, List.setIfInBounds_toArray, List.set_cons_zero, List.set_cons_succ])
                iterate 2 (refine still_yes (by kernel_rfl) (fun K hK => ?_); go_simp; refine hK _ ?_; clear hK K)
                iterate 9 (refine still_no (by kernel_rfl) ?_; simp only [Act.put, List.setIfInBounds_toArray, List.set_cons_zero, List.set_cons_succ])
                iterate 2 (refine still_yes (by kernel_rfl) (fun K hK => ?_); go_simp; refine hK _ ?_; clear hK K)
                refine wpStill_nil ?_
                go_wp2
                go_meet
                case rel => exact ⟨_, rfl, by rw [HCM.out], rfl⟩
              · have HCM : Aside0 ((!calm (l0.drop p) (l1.drop q)) = false) := ⟨by rw [List.drop_of_length_le (show l1.length ≤ q by omega), List.drop_of_length_le (show l0.length ≤ p by omega)]; rfl⟩
                refine still_drew (by kernel_rfl) (by kernel_rfl) ?_
                iterate 11 (refine still_yes (by kernel_rfl) (fun K hK => ?_); go_simp; refine hK _ ?_; clear hK K)
                iterate 21 (refine still_no (by kernel_rfl) ?_; simp only [Act.put, List.setIfInBounds_toArray, List.set_cons_zero, List.set_cons_succ])
                iterate 1 (refine still_yes (by kernel_rfl) (fun K hK => ?_); go_simp; refine hK _ ?_; clear hK K)
                refine wpStill_nil ?_
                go_wp2
                go_meet
                case rel => exact ⟨_, rfl, by rw [HCM.out], rfl⟩
          case rest =>
            obtain ⟨cb, rfl, hcb, rfl⟩ := hcut
            have HCB := Aside0.mk hcb
            have HHd := Aside0.mk (blk_drew HH.out)
            have HOd := Aside0.mk (Kd.R_drew HO.out)
            have HNd := Aside0.mk (Kd.R_drew HN.out)
            have HBLd := Aside0.mk HBL.out.drew
            have HBwd := Aside0.mk HBw.out.drew
            clear hcb HH HO HN HBL HBw
            generalize wr.drew = wd at *
            obtain ⟨Ao, co, rfl⟩ := Kd.R_slice HOd.out
            obtain ⟨An, cn, rfl⟩ := Kd.R_slice HNd.out
            have HJd := Aside0.mk (HJ1.out _ _ _ wd HJ.out HBLd.out)
            have HLO := Aside0.mk (show o.length ≤ 120 ∧ n.length ≤ 120 by have := HP1.out; have := HQ1.out; omega)
            have hol : o.length ≤ 120 := HLO.out.1
            have hnl : n.length ≤ 120 := HLO.out.2
            cases cb with
            | false =>
              have HCALM := Aside0.mk (show calm (l0.drop p) (l1.drop q) = true by have := HCB.out; simpa using this)
              clear HCB
              have hcells := blk_cells3 HHd.out
              obtain ⟨hx0, hx1, hx2⟩ := hcells
              by_cases hon : o = [] ∧ n = []
              · obtain ⟨rfl, rfl⟩ := hon
                go_wp2_with fail
                obtain ⟨hp', hq', hev⟩ := keep_next HCALM.out (by have := HP1.out; have := HQ1.out; have := HOR.out; simp at *; omega)
                refine (HK.out es p _ _ hp' (by omega) HJd.out).mono ?_
                rintro e W' ⟨rfl, M', hJ', hF', hM'⟩
                have HS' := Aside0.mk (tab_fr HS.out HBLd.out hF' (fun k hk => (hM' k hk).imp id (fun h => Nat.le_trans HBLd.out.size h)))
                have HF' := Aside0.mk (Fr.steps HF.out HBLd.out hF' HMc.out)
                have HM' := Aside0.mk (show ∀ k, M' k → M k ∨ W.heap.size ≤ k from fun k hk => (hM' k hk).elim (HMc.out k) (fun h => .inr (Nat.le_trans HF.out.size (Nat.le_trans HBLd.out.size h))))
                have HJ' := Aside0.mk hJ'
                have HEV' := Aside0.mk (show (es ++ [.inl (p : Int)]) ++ ev ((p + 1 : Nat) : Int) ((p + 1 : Nat) : Int) [] [] (al (l0.drop (p + 1)) (l1.drop (q + 1))) = evs l0 l1 by rw [← HEV.out, hev]; simp)
                have HI' := Aside0.mk (show (es ++ [(.inl (p : Int) : Evt)]).length ≤ 2 * ((p + 1) + (q + 1)) by have := HP1.out; have := HQ1.out; simp; omega)
                have HPI := Aside0.mk (show i ≤ p ∧ j ≤ q by have := HP1.out; have := HQ1.out; omega)
                clear hJ' hF' hM' hev
                go_wp2
                go_roundw
                case rel => exact ⟨p + 1, q + 1, _, M', by go_num, by go_num, ⟨by omega, by omega, HI'.out⟩, HEV', HJ', HF', HM', HS'⟩
                case measure => have := HPI.out; simp [intOf]; omega
              · have hpos : 0 < o.length + n.length := by
                  rcases Nat.eq_zero_or_pos (o.length + n.length) with h | h
                  · exact absurd ⟨List.eq_nil_of_length_eq_zero (by omega), List.eq_nil_of_length_eq_zero (by omega)⟩ hon
                  · exact h
                go_wp2_with fail
                refine (HC.out es i o n _ _ _ _ (wo.heap.size + 1) (Nat.le_succ_of_le HB.out.size) HJd.out (Kd.R_mono (Kd.R_bound HOd.out) (fun k hk hm => by have := HJ0.out _ _ _ HJ.out k hm; have := hk.2.1; omega)) (Kd.R_mono (Kd.R_bound HNd.out) (fun k hk => ⟨fun hm => by have := HJ0.out _ _ _ HJ.out k hm; have := hk.2.1; omega, hk.1.2⟩)) (by omega)).mono ?_
                rintro e W' ⟨rfl, M', hJ', hF', hM'⟩
                have hbo : ∀ k, some k = (Value.slice Ao o.length co).ownBlock → wo.heap.size ≤ k := fun k hk => by have := Kd.R_base HOd.out k hk.symm; omega
                have hbn : ∀ k, some k = (Value.slice An n.length cn).ownBlock → wo.heap.size ≤ k := fun k hk => by have := Kd.R_base HNd.out k hk.symm; omega
                have hM2 : ∀ k, M' k → Mc k ∨ wo.heap.size ≤ k := fun k hk => by
                  rcases hM' k hk with h | h | h | h
                  · exact .inl h
                  · exact .inr (Nat.le_trans HBLd.out.size h)
                  · exact .inr (hbo k h)
                  · exact .inr (hbn k h)
                have HS' := Aside0.mk (tab_fr HS.out HBLd.out hF' hM2)
                have HF' := Aside0.mk (Fr.steps HF.out HBLd.out hF' HMc.out)
                have HM' := Aside0.mk (show ∀ k, M' k → M k ∨ W.heap.size ≤ k from fun k hk => (hM2 k hk).elim (HMc.out k) (fun h => .inr (Nat.le_trans HF.out.size h)))
                have HJ' := Aside0.mk hJ'
                have HEV' := Aside0.mk (show (es ++ [.inr ((i : Int), o, n)]) ++ ev (p : Int) (p : Int) [] [] (al (l0.drop p) (l1.drop q)) = evs l0 l1 by rw [← HEV.out, ev_calm _ _ o n _ _ HCALM.out, flushH_ne hon]; simp)
                have HI' := Aside0.mk (show (es ++ [(.inr ((i : Int), o, n) : Evt)]).length ≤ 2 * (p + q) by have := HP1.out; have := HQ1.out; simp; omega)
                have HPI := Aside0.mk (show i + j < p + q by have := HP1.out; have := HQ1.out; omega)
                clear hJ' hF' hM' hM2 hbo hbn hon
                go_wp2
                go_roundw
                case rel => exact ⟨p, q, _, M', rfl, rfl, ⟨hp2, hq2, HI'.out⟩, HEV', HJ', HF', HM', HS'⟩
                case measure => have := HPI.out; simp [intOf]; omega
            | true =>
              have HNC := Aside0.mk (show calm (l0.drop p) (l1.drop q) = false by have := HCB.out; simpa using this)
              clear HCB
              go_upto_region 5 with (fail)
              go_cut [88] (fun v88 w3 => ∃ db, v88 = .bool db ∧ isDel l0 l1 p q = db ∧ w3 = wd.drew)
              case first =>
                by_cases hq : q < l1.length
                · have hqe : ((q : Int) == (l1.length : Int)) = false := by simp; omega
                  by_cases hp : p < l0.length
                  · obtain ⟨gi, ci, hci, hli, hbi, hri, _⟩ := tab_fget (f := lcsAt l0 l1) (Kd.S_below HS.out HBLd.out) p (by omega)
                    obtain ⟨gk, ck, hck, hlk, hbk, hrk, _⟩ := tab_fget (f := lcsAt l0 l1) (Kd.S_below HS.out HBLd.out) (p + 1) (by omega)
                    have v1 := (hrk q (by omega)).1
                    have v2 := (hri (q + 1) (by omega)).1
                    have HDEL : Aside0 (isDel l0 l1 p q = decide (lcsAt l0 l1 p (q + 1) ≤ lcsAt l0 l1 (p + 1) q)) := ⟨by unfold isDel; rw [decide_eq_false (show ¬ q = l1.length by omega), decide_eq_true hp]; simp⟩
                    clear hri hrk
                    generalize lcsAt l0 l1 (p + 1) q = x at *
                    generalize lcsAt l0 l1 p (q + 1) = y at *
                    have b0 : (p : Int) < (l0.length : Int) + 1 := by omega
                    have b2 : (q : Int) < (l1.length : Int) + 1 := by omega
                    have ei0 : (0 : Int) ≤ (p : Int) + 1 := by omega
                    have ei1 : (p : Int) + 1 < (l0.length : Int) + 1 := by omega
                    have ei2 : ((p : Int) + 1).toNat = p + 1 := by omega
                    have ej0 : (0 : Int) ≤ (q : Int) + 1 := by omega
                    have ej1 : (q : Int) + 1 < (l1.length : Int) + 1 := by omega
                    have ej2 : ((q : Int) + 1).toNat = q + 1 := by omega
                    have ei3 : IntKind.i64.wrap ((p : Int) + 1) = (p : Int) + 1 := (i64_w _).trans (w64 (by omega) (by omega))
                    have ej3 : IntKind.i64.wrap ((q : Int) + 1) = (q : Int) + 1 := (i64_w _).trans (w64 (by omega) (by omega))
                    refine still_drew (by kernel_rfl) (by kernel_rfl) ?_
                    iterate 29 (refine still_yes (by kernel_rfl) (fun K hK => ?_); go_simp; refine hK _ ?_; clear hK K)
                    refine wpStill_nil ?_
                    go_wp2
                    go_meet
                    case rel => exact ⟨_, rfl, by rw [HDEL.out]; first | done | rfl, rfl⟩
                  · have HDEL : Aside0 (isDel l0 l1 p q = false) := ⟨by unfold isDel; rw [decide_eq_false (show ¬ q = l1.length by omega), decide_eq_false hp]; simp⟩
                    refine still_drew (by kernel_rfl) (by kernel_rfl) ?_
                    iterate 10 (refine still_yes (by kernel_rfl) (fun K hK => ?_); go_simp; refine hK _ ?_; clear hK K)
                    iterate 17 (refine still_no (by kernel_rfl) ?_; simp only [Act.put, List.setIfInBounds_toArray, List.set_cons_zero, List.set_cons_succ])
                    iterate 2 (refine still_yes (by kernel_rfl) (fun K hK => ?_); go_simp; refine hK _ ?_; clear hK K)
                    refine wpStill_nil ?_
                    go_wp2
                    go_meet
                    case rel => exact ⟨_, rfl, by rw [HDEL.out], rfl⟩
                · have hqe : ((q : Int) == (l1.length : Int)) = true := by simp; omega
                  have HDEL : Aside0 (isDel l0 l1 p q = true) := ⟨by unfold isDel; rw [decide_eq_true (show q = l1.length by omega)]; simp⟩
                  refine still_drew (by kernel_rfl) (by kernel_rfl) ?_
                  iterate 5 (refine still_yes (by kernel_rfl) (fun K hK => ?_); go_simp; refine hK _ ?_; clear hK K)
                  iterate 23 (refine still_no (by kernel_rfl) ?_; simp only [Act.put, List.setIfInBounds_toArray, List.set_cons_zero, List.set_cons_succ])
                  iterate 1 (refine still_yes (by kernel_rfl) (fun K hK => ?_); go_simp; refine hK _ ?_; clear hK K)
                  refine wpStill_nil ?_
                  go_wp2
                  go_meet
                  case rel => exact ⟨_, rfl, by rw [HDEL.out], rfl⟩
              case rest =>
                obtain ⟨db, rfl, hdb, rfl⟩ := hcut
                have HDB := Aside0.mk hdb
                have HHe := Aside0.mk (blk_drew HHd.out)
                have HOe := Aside0.mk (Kd.R_drew HOd.out)
                have HNe := Aside0.mk (Kd.R_drew HNd.out)
                have HBLe := Aside0.mk HBLd.out.drew
                have HBwe := Aside0.mk HBwd.out.drew
                clear hdb HHd HOd HNd HBLd HBwd HJd
                generalize wd.drew = we at *
                obtain ⟨hx0, hx1, hx2⟩ := blk_cells3 HHe.out
                cases db with
                | true =>
                  obtain ⟨hp, hev⟩ := (change_next HNC.out hp2 hq2).1 HDB.out
                  have HEV' := Aside0.mk (show es ++ ev ((p + 1 : Nat) : Int) i (o ++ [rdOf ByteArray.empty l0 (p : Int)]) n (al (l0.drop (p + 1)) (l1.drop q)) = evs l0 l1 by rw [← hev, HEV.out])
                  clear hev HEV
                  obtain ⟨ad0, e0, hx⟩ := Kd.at_string HR0.out (p : Int) (by omega) (by omega)
                  cases e0
                  rw [Int.toNat_natCast] at hx
                  have HADL : (ad0.add p).block < wo.heap.size + 1 := Nat.lt_succ_of_lt (Nat.lt_of_lt_of_le (World.block_lt_of_cell? w0 _ hx) HB.out.size)
                  replace hx := (HBwe.out.cell (World.block_lt_of_cell? w0 _ hx)).trans hx
                  generalize rdOf ByteArray.empty l0 (p : Int) = s at *
                  have hp0 : (0 : Int) ≤ (p : Int) := by omega
                  have hp3 : (p : Int) < (l0.length : Int) := by omega
                  go_wp2_with fail
                  have hsz : wo.heap.size + 1 ≤ we.heap.size := by have := blk_lt HHe.out; omega
                  have hfz := blk_fz HHe.out 1
                  refine held_tail_drew (fun W_ => W_.cell? ⟨wo.heap.size, 1, none⟩ = some (.slice Ao o.length co) ∧ W_.cell? (ad0.add p) = some (.string s)) 6 (by kernel_rfl) (by kernel_rfl) (fun _ _ _ d_ _ h_ => by cases d_ <;> exact h_) (⟨hx1, hx⟩) ?_
                  intro wf hwf
                  have HOf := Aside0.mk (hwf ▸ Kd.R_drew HOe.out)
                  have HNf := Aside0.mk (hwf ▸ Kd.R_drew HNe.out)
                  have HHf := Aside0.mk (hwf ▸ blk_drew HHe.out)
                  have HBLf := Aside0.mk (hwf ▸ HBLe.out.drew)
                  have hx1f : wf.cell? ⟨wo.heap.size, 1, none⟩ = some (.slice Ao o.length co) := hwf ▸ hx1
                  have hxf : wf.cell? (ad0.add p) = some (.string s) := hwf ▸ hx
                  have HSK := Aside0.mk (show ∀ w', Below (wo.heap.size + 1) wf w' → w'.cell? ⟨wo.heap.size, 1, none⟩ = some (.slice Ao o.length co) ∧ w'.cell? (ad0.add p) = some (.string s) from fun w' hb => ⟨(hb.cell (Nat.lt_succ_self _)).trans hx1f, (hb.cell (p := ad0.add p) HADL).trans hxf⟩)
                  have hszf : wo.heap.size + 1 ≤ wf.heap.size := hwf ▸ hsz
                  clear hwf HHe HOe HNe HBLe hx1 hx hx0 hx2 hfz
                  simp only [List.take_succ_cons, List.take_zero, List.drop_succ_cons, List.drop_zero]
                  refine held_yes (.pointer (some ⟨wo.heap.size, 1, none⟩)) (by kernel_rfl) (fun W_ hW_ => by obtain ⟨y1_, y2_⟩ := hW_; go_simp) ?_
                  simp only [Act.put, List.setIfInBounds_toArray, List.set_cons_zero, List.set_cons_succ]
                  refine held_yes (.slice Ao o.length co) (by kernel_rfl) (fun W_ hW_ => by obtain ⟨y1_, y2_⟩ := hW_; go_simp) ?_
                  simp only [Act.put, List.setIfInBounds_toArray, List.set_cons_zero, List.set_cons_succ]
                  refine held_yes (.slice (some ad0) l0.length c0) (by kernel_rfl) (fun W_ hW_ => by obtain ⟨y1_, y2_⟩ := hW_; go_simp) ?_
                  simp only [Act.put, List.setIfInBounds_toArray, List.set_cons_zero, List.set_cons_succ]
                  refine held_yes (.int .i64 p) (by kernel_rfl) (fun W_ hW_ => by obtain ⟨y1_, y2_⟩ := hW_; go_simp) ?_
                  simp only [Act.put, List.setIfInBounds_toArray, List.set_cons_zero, List.set_cons_succ]
                  refine held_yes (.pointer (some (ad0.add p))) (by kernel_rfl) (fun W_ hW_ => by obtain ⟨y1_, y2_⟩ := hW_; go_simp) ?_
                  simp only [Act.put, List.setIfInBounds_toArray, List.set_cons_zero, List.set_cons_succ]
                  refine held_yes (.string s) (by kernel_rfl) (fun W_ hW_ => by obtain ⟨y1_, y2_⟩ := hW_; go_simp) ?_
                  simp only [Act.put, List.setIfInBounds_toArray, List.set_cons_zero, List.set_cons_succ]
                  refine held_nil ?_
                  refine listS_step ?_
                  go_wp2_with fail
                  refine thenS_intro (fun _ => HSK.out _ ((Below.refl _ _).alloc hszf _)) ?_
                  refine listS_step ?_
                  refine Kd.R_append Kd.string (w0 := wf) (wo.heap.size + 1) rfl (.tmp 90) (.tmp 95) 22 9 (.string ⟨#[]⟩) 16 rfl Try.underlying22 diff_Script_info9 rfl (by decide) (by omega) _ o s [.string s] (fun _ => True) (fun _ => False) rfl rfl rfl (fun _ hk => hk.elim) (fun _ _ => trivial) HOf.out (Below.refl _ _) hszf (by omega) ?_
                  intro v1 w1 hoN hbN hgN hatN
                  refine thenS_intro (fun _ => HSK.out _ hbN) ?_
                  have HNN := Aside0.mk (Kd.R_after HNf.out hgN hatN)
                  obtain ⟨AN, cN, hvN⟩ := Kd.R_slice hoN
                  rw [show (o ++ [s]).length = o.length + 1 by simp] at hvN
                  subst hvN
                  have HON := Aside0.mk hoN
                  have HHN := Aside0.mk ((hbN.block _ (Nat.lt_succ_self _)).trans HHf.out)
                  have HBLN := Aside0.mk (HBLf.out.trans (hbN.mono (Nat.le_succ _)))
                  have hx1N := (HSK.out _ hbN).1
                  have hfN := blk_fz HHN.out 1
                  have HSKN := Aside0.mk (HSK.out _ hbN)
                  clear hoN hgN hatN HSK HNf HOf HHf HBLf hx1f hxf hbN
                  refine listS_step ?_
                  go_wp2_with fail
                  refine thenS_intro (fun _ => HSKN.out) ?_
                  refine listS_step ?_
                  go_wp2_with fail
                  refine thenS_intro (fun h_ => absurd rfl h_) (listS_nil ?_)
                  go_wp2
                  go_roundw
                  case rel => exact ⟨p + 1, q, o ++ [s], n, _, _, by go_num, rfl, ⟨by have := HP1.out; simp; omega, HQ1.out, by omega, hq2⟩, HEV', ⟨blk_put (cs := #[.int .i64 i, .slice Ao o.length co, .slice An n.length cn]) HHN.out 1 _ rfl⟩, ⟨Kd.R_mono (Kd.R_far (Kd.R_bound HON.out) (fun k hk => by have := hk.2.1; show k ≠ wo.heap.size; omega) _) (fun _ hk => hk.1)⟩, ⟨Kd.R_mono (Kd.R_far (Kd.R_bound HNN.out) (fun k hk => by have := hk.2.1; show k ≠ wo.heap.size; omega) _) (fun _ hk => ⟨trivial, hk.1.2⟩)⟩, ⟨HBLN.out.setCell (Nat.le_refl _) _⟩⟩
                  case measure => simp [intOf]; omega
                | false =>
                  obtain ⟨hq, hev⟩ := (change_next HNC.out hp2 hq2).2 HDB.out
                  have HEV' := Aside0.mk (show es ++ ev (p : Int) i o (n ++ [rdOf ByteArray.empty l1 (q : Int)]) (al (l0.drop p) (l1.drop (q + 1))) = evs l0 l1 by rw [← hev, HEV.out])
                  clear hev HEV
                  obtain ⟨ad1, e1, hx⟩ := Kd.at_string HR1.out (q : Int) (by omega) (by omega)
                  cases e1
                  rw [Int.toNat_natCast] at hx
                  have HADL : (ad1.add q).block < wo.heap.size + 1 := Nat.lt_succ_of_lt (Nat.lt_of_lt_of_le (World.block_lt_of_cell? w0 _ hx) HB.out.size)
                  replace hx := (HBwe.out.cell (World.block_lt_of_cell? w0 _ hx)).trans hx
                  generalize rdOf ByteArray.empty l1 (q : Int) = t at *
                  go_wp2_with fail
                  have hsz : wo.heap.size + 1 ≤ we.heap.size := by have := blk_lt HHe.out; omega
                  refine held_tail_drew (fun W_ => W_.cell? ⟨wo.heap.size, 2, none⟩ = some (.slice An n.length cn) ∧ W_.cell? (ad1.add q) = some (.string t)) 6 (by kernel_rfl) (by kernel_rfl) (fun _ _ _ d_ _ h_ => by cases d_ <;> exact h_) (⟨hx2, hx⟩) ?_
                  intro wf hwf
                  have HOf := Aside0.mk (hwf ▸ Kd.R_drew HOe.out)
                  have HNf := Aside0.mk (hwf ▸ Kd.R_drew HNe.out)
                  have HHf := Aside0.mk (hwf ▸ blk_drew HHe.out)
                  have HBLf := Aside0.mk (hwf ▸ HBLe.out.drew)
                  have hx1f : wf.cell? ⟨wo.heap.size, 2, none⟩ = some (.slice An n.length cn) := hwf ▸ hx2
                  have hxf : wf.cell? (ad1.add q) = some (.string t) := hwf ▸ hx
                  have HSK := Aside0.mk (show ∀ w', Below (wo.heap.size + 1) wf w' → w'.cell? ⟨wo.heap.size, 2, none⟩ = some (.slice An n.length cn) ∧ w'.cell? (ad1.add q) = some (.string t) from fun w' hb => ⟨(hb.cell (Nat.lt_succ_self _)).trans hx1f, (hb.cell (p := ad1.add q) HADL).trans hxf⟩)
                  have hszf : wo.heap.size + 1 ≤ wf.heap.size := hwf ▸ hsz
                  clear hwf HHe HOe HNe HBLe hx1 hx hx0 hx2
                  simp only [List.take_succ_cons, List.take_zero, List.drop_succ_cons, List.drop_zero]
                  refine held_yes (.pointer (some ⟨wo.heap.size, 2, none⟩)) (by kernel_rfl) (fun W_ hW_ => by obtain ⟨y1_, y2_⟩ := hW_; go_simp) ?_
                  simp only [Act.put, List.setIfInBounds_toArray, List.set_cons_zero, List.set_cons_succ]
                  refine held_yes (.slice An n.length cn) (by kernel_rfl) (fun W_ hW_ => by obtain ⟨y1_, y2_⟩ := hW_; go_simp) ?_
                  simp only [Act.put, List.setIfInBounds_toArray, List.set_cons_zero, List.set_cons_succ]
                  refine held_yes (.slice (some ad1) l1.length c1) (by kernel_rfl) (fun W_ hW_ => by obtain ⟨y1_, y2_⟩ := hW_; go_simp) ?_
                  simp only [Act.put, List.setIfInBounds_toArray, List.set_cons_zero, List.set_cons_succ]
                  refine held_yes (.int .i64 q) (by kernel_rfl) (fun W_ hW_ => by obtain ⟨y1_, y2_⟩ := hW_; go_simp) ?_
                  simp only [Act.put, List.setIfInBounds_toArray, List.set_cons_zero, List.set_cons_succ]
                  refine held_yes (.pointer (some (ad1.add q))) (by kernel_rfl) (fun W_ hW_ => by obtain ⟨y1_, y2_⟩ := hW_; go_simp) ?_
                  simp only [Act.put, List.setIfInBounds_toArray, List.set_cons_zero, List.set_cons_succ]
                  refine held_yes (.string t) (by kernel_rfl) (fun W_ hW_ => by obtain ⟨y1_, y2_⟩ := hW_; go_simp) ?_
                  simp only [Act.put, List.setIfInBounds_toArray, List.set_cons_zero, List.set_cons_succ]
                  refine held_nil ?_
                  refine listS_step ?_
                  go_wp2_with fail
                  refine thenS_intro (fun _ => HSK.out _ ((Below.refl _ _).alloc hszf _)) ?_
                  refine listS_step ?_
                  refine Kd.R_append Kd.string (w0 := wf) (wo.heap.size + 1) rfl (.tmp 101) (.tmp 106) 22 9 (.string ⟨#[]⟩) 16 rfl Try.underlying22 diff_Script_info9 rfl (by decide) (by omega) _ n t [.string t] (fun k => True ∧ some k ≠ (Value.slice Ao o.length co).ownBlock) (fun _ => False) rfl rfl rfl (fun _ hk => hk.elim) (fun k hk => ⟨trivial, fun he => by have := Kd.R_lt HOf.out k he.symm; omega⟩) HNf.out (Below.refl _ _) hszf (by omega) ?_
                  intro v1 w1 hoN hbN hgN hatN
                  refine thenS_intro (fun _ => HSK.out _ hbN) ?_
                  have HOO := Aside0.mk (Kd.R_grown2 HOf.out rfl hgN (fun k hk => (HNf.out.1 k hk).2))
                  obtain ⟨AN, cN, hvN⟩ := Kd.R_slice hoN
                  rw [show (n ++ [t]).length = n.length + 1 by simp] at hvN
                  subst hvN
                  have HNN := Aside0.mk hoN
                  have HHN := Aside0.mk ((hbN.block _ (Nat.lt_succ_self _)).trans HHf.out)
                  have HBLN := Aside0.mk (HBLf.out.trans (hbN.mono (Nat.le_succ _)))
                  have hx1N := (HSK.out _ hbN).1
                  have hfN := blk_fz HHN.out 2
                  have HSKN := Aside0.mk (HSK.out _ hbN)
                  clear hoN hgN hatN HSK HNf HOf HHf HBLf hx1f hxf hbN
                  refine listS_step ?_
                  go_wp2_with fail
                  refine thenS_intro (fun _ => HSKN.out) ?_
                  refine listS_step ?_
                  go_wp2_with fail
                  refine thenS_intro (fun h_ => absurd rfl h_) (listS_nil ?_)
                  go_wp2
                  go_roundw
                  case rel => exact ⟨p, q + 1, o, n ++ [t], _, _, rfl, by go_num, ⟨HP1.out, by have := HQ1.out; simp; omega, hp2, by omega⟩, HEV', ⟨blk_put (cs := #[.int .i64 i, .slice Ao o.length co, .slice An n.length cn]) HHN.out 2 _ rfl⟩, ⟨Kd.R_mono (Kd.R_far (Kd.R_bound HOO.out) (fun k hk => by have := hk.2.1; show k ≠ wo.heap.size; omega) _) (fun _ hk => trivial)⟩, ⟨Kd.R_mono (Kd.R_far (Kd.R_bound HNN.out) (fun k hk => by have := hk.2.1; show k ≠ wo.heap.size; omega) _) (fun _ hk => hk.1)⟩, ⟨HBLN.out.setCell (Nat.le_refl _) _⟩⟩
                  case measure => simp [intOf]; omega
end
def diff_Script_hk (h : Hk) : S70 := ⟨h.1, h.2.1, h.2.2⟩
def diff_Script_J (pb : Nat) (w0 : World) (es : List Evt) (W : World) (M : Nat → Prop) : Prop :=
  (∀ k, M k → k < W.heap.size) ∧ M pb ∧ w0.heap.size ≤ pb ∧ Below w0.heap.size w0 W ∧
    ∃ v, W.heap[pb]? = some (.cells #[v] 36 (0, 0)) ∧ Kd.S k70 70 W w0.heap.size (fun k => M k) v ((hunksOf es).map diff_Script_hk)
theorem hunksOf_keep (es : List Evt) (i : Int) : hunksOf (es ++ [.inl i]) = hunksOf es := by simp [hunksOf]
theorem hunksOf_snoc (es : List Evt) (h : Hk) : hunksOf (es ++ [.inr h]) = hunksOf es ++ [h] := by simp [hunksOf]
theorem hunksOf_length (es : List Evt) : (hunksOf es).length ≤ es.length := List.length_filterMap_le _ _
theorem diff_Script_infoH : (Try.prog.info? 70).map (fun i => (i.zero, i.size, i.bytes)) = some (some (.agg #[.int .i64 0, .slice none 0 0, .slice none 0 0]), 3, 56) := by kernel_rfl
theorem diff_Script_J1 {pb : Nat} {w0 : World} (es : List Evt) (W : World) (M : Nat → Prop) (W' : World) (h : diff_Script_J pb w0 es W M) (hb : Below W.heap.size W W') : diff_Script_J pb w0 es W' M := by
  obtain ⟨h1, h2, h3, h6, v, h7, h8⟩ := h
  exact ⟨fun k hk => Nat.lt_of_lt_of_le (h1 k hk) hb.size, h2, h3, h6.trans (hb.mono h6.size), v, blk_below h7 hb, Kd.S_below h8 hb⟩
set_option maxHeartbeats 4000000 in
theorem diff_Script_keep {pb : Nat} {w0 : World} (es : List Evt) (i : Nat) (W : World) (M : Nat → Prop) (hJ : diff_Script_J pb w0 es W M) :
    Calls Try.prog 46 #[.int .i64 i] W fun e W' => e = .returned (.tuple #[]) ∧ ∃ M', diff_Script_J pb w0 (es ++ [.inl (i : Int)]) W' M' ∧ Fr M W W' ∧ ∀ k, M' k → M k ∨ W.heap.size ≤ k := by
  have HJ := Aside0.mk hJ
  clear hJ
  go_enter Try.func46, Try.ntmps46
  go_wp2
  go_end0
  refine ⟨rfl, M, ?_, Fr.refl _ _, fun k hk => .inl hk⟩
  have h1 := HJ.out
  unfold diff_Script_J at h1 ⊢
  rw [hunksOf_keep]
  exact h1
set_option maxHeartbeats 8000000 in
set_option maxRecDepth 100000 in
theorem diff_Script_change {pb : Nat} {w0 : World} (es : List Evt) (s : Int) (o n : List ByteArray) (vo vn : Value) (W : World) (M : Nat → Prop) (B : Nat) (hB : w0.heap.size ≤ B) (hJ : diff_Script_J pb w0 es W M)
    (ho : Kd.string.R 9 W B (fun k => ¬ M k) vo o) (hn : Kd.string.R 9 W B (fun k => ¬ M k ∧ some k ≠ vo.ownBlock) vn n) (hes : es.length ≤ 500) :
    Calls Try.prog 47 #[.agg #[.int .i64 s, vo, vn], .pointer (some ⟨pb, 0, none⟩)] W fun e W' => e = .returned (.tuple #[]) ∧ ∃ M', diff_Script_J pb w0 (es ++ [.inr (s, o, n)]) W' M' ∧ Fr M W W' ∧ ∀ k, M' k → M k ∨ W.heap.size ≤ k ∨ some k = vo.ownBlock ∨ some k = vn.ownBlock := by
  obtain ⟨h1, h2, h3, h6, v, h7, h8⟩ := hJ
  have hlen := hunksOf_length es
  have hkm : (hunksOf (es ++ [.inr (s, o, n)])).map diff_Script_hk = (hunksOf es).map diff_Script_hk ++ [diff_Script_hk (s, o, n)] := by rw [hunksOf_snoc, List.map_append]; rfl
  have HKM := Aside0.mk hkm
  have hxl : ((hunksOf es).map diff_Script_hk).length ≤ 500 := by rw [List.length_map]; omega
  clear hkm hlen
  generalize (hunksOf es).map diff_Script_hk = xs at *
  obtain ⟨Ao, co, rfl⟩ := Kd.R_slice ho
  obtain ⟨An, cn, rfl⟩ := Kd.R_slice hn
  obtain ⟨Av, cv, rfl⟩ := Kd.S_slice h8
  have H1 := Aside0.mk h1
  have H2 := Aside0.mk h2
  have H3 := Aside0.mk h3
  have H6 := Aside0.mk h6
  have H7 := Aside0.mk h7
  have H8 := Aside0.mk h8
  have HO := Aside0.mk ho
  have HN := Aside0.mk hn
  have HPB := Aside0.mk (blk_lt h7)
  have HNE := Aside0.mk (Kd.S_ne h8 h7 (by decide))
  clear h1 h2 h3 h6 h7 h8 ho hn
  go_enter Try.func47, Try.ntmps47
  go_upto_region 1 with (fail)
  have hb : Below W.heap.size W (W.alloc (.cells #[.int .i64 s, .slice Ao o.length co, .slice An n.length cn] 70)) := below_alloc (Below.refl _ _) _
  have hbx := heap_alloc_new W (.cells #[.int .i64 s, .slice Ao o.length co, .slice An n.length cn] 70)
  have hsz : (W.alloc (.cells #[.int .i64 s, .slice Ao o.length co, .slice An n.length cn] 70)).heap.size = W.heap.size + 1 := by simp
  generalize W.alloc (.cells #[.int .i64 s, .slice Ao o.length co, .slice An n.length cn] 70) = W1 at *
  have h7b := blk_below H7.out hb
  have hxp : W1.cell? ⟨pb, 0, none⟩ = some (.slice Av xs.length cv) := by simp [World.cell?, h7b]
  obtain ⟨hx0, hx1, hx2⟩ := blk_cells3 hbx
  have HB1 := Aside0.mk hb
  have HSZ := Aside0.mk hsz
  have H7b := Aside0.mk h7b
  have HWS := Aside0.mk H6.out.size
  clear hb hbx hsz h7b
  go_wp2_with ((with_reducible refine gate_builtin (b := .append) (xs := #[.tmp 4, .tmp 6]) rfl ?_); at_builtin; refine Kd.S_append k70 (w0 := w0) w0.heap.size rfl (.tmp 4) (.tmp 6) 34 70 (.agg #[.int .i64 0, .slice none 0 0, .slice none 0 0]) 56 rfl Try.underlying34 diff_Script_infoH rfl (by decide) (by omega) _ xs (diff_Script_hk (s, o, n)) [.int .i64 s, .slice Ao o.length co, .slice An n.length cn] (fun k => M k ∨ W1.heap.size ≤ k ∨ some k = (Value.slice Ao o.length co).ownBlock ∨ some k = (Value.slice An n.length cn).ownBlock) (fun k => some k = (Value.slice Ao o.length co).ownBlock ∨ some k = (Value.slice An n.length cn).ownBlock) rfl rfl ?aP ?aF (fun _ hk => .inr (.inl hk)) ?aO ?aB ?aS (by omega) ?_; (case aP => exact k70_mkM _ _ _ (diff_Script_hk (s, o, n)) (Kd.R_mono (Kd.R_tight rfl (Kd.R_lower (Kd.R_below HO.out HB1.out) hB)) (fun _ hk => .inl hk)) (Kd.R_mono (Kd.R_tight rfl (Kd.R_lower (Kd.R_below HN.out HB1.out) hB)) (fun _ hk => .inr hk))); (case aF => exact fun k hk => ⟨.inr (.inr hk), fun he => hk.elim (fun h => HO.out.1 k h.symm ((Kd.S_R H8.out).1 k he.symm)) (fun h => (HN.out.1 k h.symm).1 ((Kd.S_R H8.out).1 k he.symm))⟩); (case aO => exact Kd.S_mono (Kd.S_below H8.out HB1.out) (fun k hk => ⟨.inl hk, fun hp => hp.elim (fun h => HO.out.1 k h.symm hk) (fun h => (HN.out.1 k h.symm).1 hk)⟩)); (case aB => exact H6.out.trans (HB1.out.mono HWS.out)); (case aS => have := HWS.out; have := HSZ.out; omega); intro v1 w1 hoN hbN hgN hatN; have h7N := (hgN.block pb (by have := HPB.out; have := HSZ.out; omega) HNE.out).trans H7b.out; obtain ⟨AN, cN, hvN⟩ := Kd.S_slice hoN; rw [show (xs ++ [diff_Script_hk (s, o, n)]).length = xs.length + 1 by simp] at hvN; subst hvN; have hoc : w1.cell? ⟨pb, 0, none⟩ = some (.slice Av xs.length cv) := (by simp [World.cell?, h7N]); have hof := blk_fz h7N 0; have HON := Aside0.mk hoN; have HBN := Aside0.mk hbN; have HGN := Aside0.mk hgN; have H7N := Aside0.mk h7N; clear hoN hbN hgN hatN h7N)
  go_end0
  have hsz1 := HGN.out.size
  have hWS := HSZ.out
  have hbk : ∀ k, k ≠ pb → (w1.setCell ⟨pb, 0, none⟩ (.slice AN (xs.length + 1) cN)).heap[k]? = w1.heap[k]? := fun k hk => Below.heap_setCell _ _ _ _ hk
  have hss : (w1.setCell ⟨pb, 0, none⟩ (.slice AN (xs.length + 1) cN)).heap.size = w1.heap.size := by simp [World.setCell]
  have hrb := Kd.S_bound HON.out
  refine ⟨rfl, fun k => (M k ∨ W1.heap.size ≤ k ∨ some k = (Value.slice Ao o.length co).ownBlock ∨ some k = (Value.slice An n.length cn).ownBlock) ∧ k < w1.heap.size, ⟨fun k hk => by rw [hss]; exact hk.2, ⟨.inl H2.out, by have := HPB.out; omega⟩, H3.out, HBN.out.setCell (p := ⟨pb, 0, none⟩) H3.out _, _, blk_put (cs := #[.slice Av xs.length cv]) H7N.out 0 _ rfl, ?_⟩, ?_, ?_⟩
  · rw [HKM.out]
    exact Kd.S_mono (Kd.S_move (w1 := w1.setCell ⟨pb, 0, none⟩ (.slice AN (xs.length + 1) cN)) (Kd.S_types hrb H7N.out (by decide)) (fun k hk => hbk k hk.2)) (fun k hk => ⟨hk.1.1, hk.1.2.2.1⟩)
  · refine (Fr.of_below (M := M) HB1.out).trans (M' := fun k => M k) ⟨HGN.out.os, HGN.out.tape, HGN.out.output, by rw [hss]; exact hsz1, fun k hk hn => ?_⟩ (fun k hk => .inl hk)
    rw [hbk k (fun e_ => hn (by rw [e_]; exact H2.out))]
    exact HGN.out.block k hk (fun e_ => hn ((Kd.S_R H8.out).1 k e_.symm))
  · intro k hk
    rcases hk.1 with h | h | h
    · exact .inl h
    · exact .inr (.inl (by omega))
    · exact .inr (.inr h)
set_option maxHeartbeats 4000000 in
set_option maxRecDepth 100000 in
theorem diff_Script.calls (A0 : Option Addr) (c0 : Nat) (l0 : List ByteArray) (A1 : Option Addr) (c1 : Nat) (l1 : List ByteArray) (r1 : List (S70)) (r2 : Int) (r3 : Int) (w : World) (hr0 : Kd.C Kd.string w A0 l0.length l0) (hc0 : l0.length ≤ c0) (hr1 : Kd.C Kd.string w A1 l1.length l1) (hc1 : l1.length ≤ c1) (h : diff_Script.f l0 l1 = some (r1, r2, r3)) :
    Calls Try.prog 21 #[.slice A0 l0.length c0, .slice A1 l1.length c1] w fun e w' => ∃ v0_ : Value, e = .returned (.tuple #[.agg #[v0_], .agg #[.int .i64 r2, .int .i64 r3]]) ∧ Kd.S k70 70 w' w.heap.size (fun _ => True) v0_ r1 ∧ Below w.heap.size w w' := by
  have hu_ := Try.underlying24
  replace h : some (((scriptOr l0 l1).1).map diff_Script_hk, (scriptOr l0 l1).2) = some (r1, r2, r3) := h
  unfold scriptOr at h
  rcases twoFault_or l0 l1 with z | z
  · rw [if_pos z] at h
    simp only [Option.some.injEq, Prod.mk.injEq] at h
    obtain ⟨rfl, rfl, rfl⟩ := h
    have HV := Aside0.mk (show lines_Two.f l0 l1 = some (0, 0) from congrArg some z)
    have HL := Aside0.mk (show l0.length ≤ 120 ∧ l1.length ≤ 120 from ⟨(linesFault_ok.1 (twoFault_ok.1 z).1).1, (linesFault_ok.1 (twoFault_ok.1 z).2).1⟩)
    have HR0 := Aside0.mk hr0
    have HR1 := Aside0.mk hr1
    clear z hr0 hr1
    go_enter Try.func21, Try.ntmps21
    go_wp2_with fail
    have hbw : Below w.heap.size w ((w.alloc (.cells #[.slice none 0 0] 36)).alloc (.cells #[.int .i64 0, .int .i64 0] 24)) := below_alloc (below_alloc (Below.refl _ _) _) _
    have hb0 := blk_alloc (heap_alloc_new w (.cells #[.slice none 0 0] 36)) (.cells #[.int .i64 0, .int .i64 0] 24)
    have hb1 := heap_alloc_new (w.alloc (.cells #[.slice none 0 0] 36)) (.cells #[.int .i64 0, .int .i64 0] 24)
    refine (lines_Two.calls A0 c0 l0 A1 c1 l1 0 0 _ (Kd.C_below HR0.out hbw) hc0 (Kd.C_below HR1.out hbw) hc1 HV.out).mono ?_
    rintro e w1 ⟨rfl, hb⟩
    have hB := hbw.trans (hb.mono hbw.size)
    have hb0' := blk_below hb0 hb
    have hb1' := blk_below hb1 hb
    rw [World.size_alloc] at hb1'
    have hs1 := hb.size
    simp only [World.size_alloc] at hs1
    have HB := Aside0.mk hB
    have HA := Aside0.mk hb0'
    have HF := Aside0.mk hb1'
    clear hbw hb0 hb1 hb hB hb0' hb1'
    go_upto_region 5 with (fail)
    have hbs : Below w1.heap.size w1 ((w1.alloc (.cells #[.int .i64 0, .int .i64 0] 24)).alloc (.cells #[.slice none 0 0] 36)) := below_alloc (below_alloc (Below.refl _ _) _) _
    have hob := heap_alloc_new (w1.alloc (.cells #[.int .i64 0, .int .i64 0] 24)) (.cells #[.slice none 0 0] 36)
    rw [World.size_alloc] at hob
    have hBW := HB.out.trans (hbs.mono HB.out.size)
    have hAW := blk_below HA.out hbs
    have hFW := blk_below HF.out hbs
    have hsW : ((w1.alloc (.cells #[.int .i64 0, .int .i64 0] 24)).alloc (.cells #[.slice none 0 0] 36)).heap.size = w1.heap.size + 1 + 1 := by simp
    generalize (w1.alloc (.cells #[.int .i64 0, .int .i64 0] 24)).alloc (.cells #[.slice none 0 0] 36) = W2 at *
    have HBW := Aside0.mk hBW
    have HAW := Aside0.mk hAW
    have HFW := Aside0.mk hFW
    have HSW := Aside0.mk hsW
    have HOB := Aside0.mk hob
    clear hbs hob hBW hAW hFW hsW HB HA HF
    go_wp2_with fail
    have hBW := HBW.out
    have hAW := HAW.out
    have hFW := HFW.out
    have hsW := HSW.out
    have hob := HOB.out
    refine (diff_Script_steps l0 w (diff_Script_J (w1.heap.size + 1) w) (w1.heap.size + 1) (fun es W M W' => diff_Script_J1 es W M W') (fun es W M h => h.1)
      (fun es i W M hi hes hJ => diff_Script_keep es i W M hJ) (fun es s o n vo vn W M B hB hJ ho hn hes => diff_Script_change es s o n vo vn W M B hB hJ ho hn hes)
      A0 c0 A1 c1 l1 _ (fun k => k = w1.heap.size + 1) HL.out.1 HL.out.2 HR0.out hc0 HR1.out hc1 hBW (fun k hk => by omega)
      ⟨fun k hk => by rw [hsW]; omega, rfl, by omega, hBW, _, hob, Kd.S_nil _ _ _ _ _⟩).mono ?_
    rintro e w2 ⟨rfl, M', hJ', hF, hM'⟩
    obtain ⟨_, j2, j3, j6, v, j7, j8⟩ := hJ'
    have hFa := hF.block w.heap.size (by rw [hsW]; omega) (by omega)
    have HFA := Aside0.mk (hFa.trans hAW)
    have hFo := hF.block (w.heap.size + 1) (by rw [hsW]; omega) (by omega)
    have HFO := Aside0.mk (hFo.trans hFW)
    have hxo : w2.cell? ⟨w1.heap.size + 1, 0, none⟩ = some v := by simp [World.cell?, j7]
    have H8 := Aside0.mk (Kd.S_mono j8 (ok' := fun _ => True) (fun _ _ => trivial))
    have H6 := Aside0.mk j6
    have hls := blk_lt HFO.out
    clear hob hBW hAW hFW hsW hFa hFo hF hM' j2 j6 j7 j8 HBW HAW HFW HSW HOB
    obtain ⟨x0, x1, y0, y1, hlt⟩ := box_facts HFO.out
    obtain ⟨Av, cv, rfl⟩ := Kd.S_slice H8.out
    have hxp : w2.cell? ⟨w.heap.size, 0, none⟩ = some (.slice none 0 0) := by simp [World.cell?, HFA.out]
    have hfp := blk_fz HFA.out 0
    go_wp2_with fail
    have hp1 := blk_put (cs := #[.slice none 0 0]) HFA.out 0 (.slice Av ((scriptOf l0 l1).map diff_Script_hk).length cv) rfl
    have hf1 := (Below.heap_setCell w2 ⟨w.heap.size, 0, none⟩ (.slice Av ((scriptOf l0 l1).map diff_Script_hk).length cv) (w.heap.size + 1) (by simp)).trans HFO.out
    have hf2 := blk_put (cs := #[.int .i64 0, .int .i64 0]) hf1 0 (.int .i64 0) rfl
    have hf3 := blk_put (cs := #[.int .i64 0, .int .i64 0]) hf2 1 (.int .i64 0) rfl
    have hp3 := (Below.heap_setCell _ ⟨w.heap.size + 1, 1, none⟩ (.int .i64 0) w.heap.size (by simp)).trans ((Below.heap_setCell _ ⟨w.heap.size + 1, 0, none⟩ (.int .i64 0) w.heap.size (by simp)).trans hp1)
    simp only [List.length_map] at hf3 hp3 hf1 hf2 hp1
    refine bodyPost_ret (results_cc rfl _ _ w.heap.size (w.heap.size + 1) 36 24 #[.slice Av (scriptOf l0 l1).length cv] #[.int .i64 0, .int .i64 0] (0, 0) (0, 0) _ _ rfl hp3 Try.underlying36 rfl (by kernel_rfl) rfl hf3 Try.underlying24 rfl (by kernel_rfl)) rfl ?_
    have g8 := H8.out
    simp only [List.length_map] at g8
    have h0 := Kd.S_set g8 HFA.out (by decide) 0 (.slice Av (scriptOf l0 l1).length cv)
    have h1 := Kd.S_set h0 hf1 (by decide) 0 (.int .i64 0)
    have h2 := Kd.S_set h1 hf2 (by decide) 1 (.int .i64 0)
    exact ⟨_, rfl, h2, ((H6.out.setCell (p := ⟨w.heap.size, 0, none⟩) (Nat.le_refl _) _).setCell (p := ⟨w.heap.size + 1, 0, none⟩) (Nat.le_succ _) _).setCell (p := ⟨w.heap.size + 1, 1, none⟩) (Nat.le_succ _) _⟩
  · rw [if_neg (fun e => z (congrArg Prod.fst e))] at h
    obtain ⟨⟨f1, f2⟩, hf⟩ : ∃ f, twoFault l0 l1 = f := ⟨_, rfl⟩
    have hne : (!(f1 == 0) || (!(f2 == 0))) = true := by
      have := fault_ne (twoFault_or l0 l1)
      rw [hf] at this z
      rw [this]
      exact decide_eq_true (fun e => z (congrArg Prod.fst e))
    have hv : lines_Two.f l0 l1 = some (f1, f2) := congrArg some hf
    simp only [Option.some.injEq, Prod.mk.injEq] at h
    rw [hf] at h
    obtain ⟨rfl, rfl, rfl⟩ := h
    have HV := Aside0.mk hv
    have HR0 := Aside0.mk hr0
    have HR1 := Aside0.mk hr1
    clear hv hf z hr0 hr1
    go_enter Try.func21, Try.ntmps21
    go_wp2_with fail
    have hbw : Below w.heap.size w ((w.alloc (.cells #[.slice none 0 0] 36)).alloc (.cells #[.int .i64 0, .int .i64 0] 24)) := below_alloc (below_alloc (Below.refl _ _) _) _
    have hb0 := blk_alloc (heap_alloc_new w (.cells #[.slice none 0 0] 36)) (.cells #[.int .i64 0, .int .i64 0] 24)
    have hb1 := heap_alloc_new (w.alloc (.cells #[.slice none 0 0] 36)) (.cells #[.int .i64 0, .int .i64 0] 24)
    refine (lines_Two.calls A0 c0 l0 A1 c1 l1 r2 r3 _ (Kd.C_below HR0.out hbw) hc0 (Kd.C_below HR1.out hbw) hc1 HV.out).mono ?_
    rintro e w1 ⟨rfl, hb⟩
    have hB := hbw.trans (hb.mono hbw.size)
    have hb1' := blk_below hb1 hb
    rw [World.size_alloc] at hb1'
    have hs1 := hb.size
    simp only [World.size_alloc] at hs1
    have HB := Aside0.mk hB
    have HF := Aside0.mk hb1'
    have HA := Aside0.mk (blk_below hb0 hb)
    obtain ⟨x0, x1, y0, y1, hlt⟩ := box_facts hb1'
    have hxp : w1.cell? ⟨w.heap.size, 0, none⟩ = some (.slice none 0 0) := by simp [World.cell?, HA.out]
    have hfp := blk_fz HA.out 0
    have hlt0 : w.heap.size < w1.heap.size := by omega
    clear hbw hb0 hb1 hb hB hb1'
    go_wp2_with fail
    go_region
    go_wp2
    have hp1 := blk_put (cs := #[.slice none 0 0]) HA.out 0 (.slice none 0 0) rfl
    have hf1 := (Below.heap_setCell w1 ⟨w.heap.size, 0, none⟩ (.slice none 0 0) (w.heap.size + 1) (by simp)).trans HF.out
    have hf2 := blk_put (cs := #[.int .i64 0, .int .i64 0]) hf1 0 (.int .i64 r2) rfl
    have hf3 := blk_put (cs := #[.int .i64 r2, .int .i64 0]) hf2 1 (.int .i64 r3) rfl
    have hp3 := (Below.heap_setCell _ ⟨w.heap.size + 1, 1, none⟩ (.int .i64 r3) w.heap.size (by simp)).trans ((Below.heap_setCell _ ⟨w.heap.size + 1, 0, none⟩ (.int .i64 r2) w.heap.size (by simp)).trans hp1)
    refine bodyPost_ret (results_cc rfl _ _ w.heap.size (w.heap.size + 1) 36 24 #[.slice none 0 0] #[.int .i64 r2, .int .i64 r3] (0, 0) (0, 0) _ _ rfl (blk_drew (blk_alloc hp3 _)) Try.underlying36 rfl (by kernel_rfl) rfl (blk_drew (blk_alloc hf3 _)) Try.underlying24 rfl (by kernel_rfl)) rfl ?_
    exact ⟨_, rfl, Kd.S_nil _ _ _ _ _, below_drew ((((HB.out.setCell (p := ⟨w.heap.size, 0, none⟩) (Nat.le_refl _) _).setCell (p := ⟨w.heap.size + 1, 0, none⟩) (Nat.le_succ _) _).setCell (p := ⟨w.heap.size + 1, 1, none⟩) (Nat.le_succ _) _).alloc (by simp; omega) _)⟩


/-! ### changeforgeref1_At: function 36 -/
def changeforgeref1_At.f (a0 : Int) (a1 : Int) : Option (Int × Int) := some (a0, a1)
set_option maxHeartbeats 8000000 in
set_option maxRecDepth 100000 in
theorem changeforgeref1_At.calls (a0 : Int) (a1 : Int) (r1 : Int) (r2 : Int) (w : World) (h : changeforgeref1_At.f a0 a1 = some (r1, r2)) :
    Calls Try.prog 36 #[.int .i64 a0, .int .i64 a1] w fun e w' => e = .returned (.agg #[.int .i64 r1, .int .i64 r2]) ∧ Below w.heap.size w w' := by
  have hu24 := Try.underlying24
  have HB := Aside0.mk (Below.refl w.heap.size w)
  have H : (some (a0, a1)) = some (r1, r2) := h
  clear h
  simp only [Option.some.injEq, Prod.mk.injEq] at H
  obtain ⟨rfl, rfl⟩ := H
  go_enter Try.func36, Try.ntmps36
  go_wp2_with (first | ((with_reducible refine gate_dst (N := 4) rfl ?_); refine box_event ?hg (N := 4) ?hd (cs := #[.int .i64 0, .int .i64 0]) (t := 24) ?hr ?_; (case hd => rfl); (case hg => rfl); (case hr => first | (go_simp; done) | (go_simp; rfl)); intro gb132 hg w3 hbox hb; have n0_ := Aside0.mk (below_step (by repeat (first | (with_reducible first | exact HB.out | apply below_alloc | apply pw_below_drewN | apply below_drew1) | exact HB.out)) hb); have n1_ := Aside0.mk (hbox); have n2_ := Aside0.mk ((by rw [hg]; exact (below_size (by repeat (first | (with_reducible first | exact HB.out | apply below_alloc | apply pw_below_drewN | apply below_drew1) | exact HB.out))) : w.heap.size ≤ gb132)); have n3_ := Aside0.mk ((by rw [hg]; exact (below_size (by repeat (first | (with_reducible first | exact HB.out | apply below_alloc | apply pw_below_drewN | apply below_drew1) | exact HB.out))) : w.heap.size ≤ gb132)); clear HB; have HB := n0_; have BK132 := n1_; have GW132 := n2_; have GE132 := n3_; clear n0_ n1_ n2_ n3_; clear hb hbox hg; have hcz4_0 : w3.cell? ⟨gb132, 0, none⟩ = some (.int .i64 0) := (blk_cell BK132.out 0).trans rfl; have hcz4_1 : w3.cell? ⟨gb132, 1, none⟩ = some (.int .i64 0) := (blk_cell BK132.out 1).trans rfl; have hfz4_0 := blk_frozen BK132.out 0; have hfz4_1 := blk_frozen BK132.out 1))
  refine bodyPost_ret (results_cell_row rfl _ _ gb132 24 #[.int .i64 a0, .int .i64 a1] (0, 0) _ rfl (by (with_reducible repeat (first | refine blk_drewN ?_ _ | refine blk_drew ?_ | refine blk_alloc ?_ _)); refine blk_put (cs := #[.int .i64 a0, .int .i64 0]) ?_ 1 _ rfl; (with_reducible repeat (first | refine blk_drewN ?_ _ | refine blk_drew ?_ | refine blk_alloc ?_ _)); refine blk_put (cs := #[.int .i64 0, .int .i64 0]) ?_ 0 _ rfl; (with_reducible repeat (first | refine blk_drewN ?_ _ | refine blk_drew ?_ | refine blk_alloc ?_ _)); exact BK132.out) Try.underlying24 rfl (by kernel_rfl)) rfl ?_
  exact ⟨by first | rfl | (simp [errW_none, errW_some] <;> rfl) | (simp [*, errW_none, errW_some] <;> rfl), by repeat (first | (with_reducible first | exact HB.out | apply below_alloc | apply pw_below_drewN | apply below_drew1 | refine below_set ?_ GE132.out) | exact HB.out)⟩

end Go.Proofs.Ytifkadmljokffaa.PB
