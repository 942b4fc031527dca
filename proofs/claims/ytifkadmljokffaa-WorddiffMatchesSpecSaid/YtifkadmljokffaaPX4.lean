/- Printed by a program of this session out of the translation: Lean functions for Go functions, and proofs that the Go functions answer the same. -/
import Derived.Test.YtifkadmljokffaaPX0
import Derived.Test.YtifkadmljokffaaPX3
namespace Go.Proofs.Ytifkadmljokffaa.PX
open Go.RowKit Go.Proofs.Ytifkadmljokffaa.Pre Go.Proofs.YtifkadmljokffaaW.PrintWords Go.Proofs.YtifkadmljokffaaW.PrintLast Go.Proofs.YtifkadmljokffaaW.PrintMore
attribute [local go_sem] max2_int min2_int max_two min_two max_three min_three max_four min_four   -- for this text's walks alone
set_option linter.unusedVariables false
set_option linter.unusedSimpArgs false

/-! ### worddiff_Highlight: function 34 -/
def worddiff_Highlight.f (a0 : ByteArray) (a1 : ByteArray) : Option ((List (S95)) × (List (S95)) × Int × Int) :=  if (linesFault [a0]).1 ≠ 0 then some ([], [], (linesFault [a0]).1, 0) else if (linesFault [a1]).1 ≠ 0 then some ([], [], (linesFault [a1]).1, 1) else some ((marksOf 1 (words a0) (words a1)).map (fun p_ => (⟨p_.1, p_.2⟩ : S95)), (marksOf 2 (words a0) (words a1)).map (fun p_ => (⟨p_.1, p_.2⟩ : S95)), 0, 0)
section
attribute [local irreducible] wpStill
theorem worddiff_info95 : (Try.prog.info? 95).map (fun i => (i.zero, i.size, i.bytes)) = some (some (.agg #[.int .i64 0, .int .i64 0]), 2, 16) := by kernel_rfl
def mkP (p : Pr) : S95 := ⟨p.1, p.2⟩
theorem mkP_getD (zs : List Pr) (i : Nat) : (zs.map mkP).getD i z95 = mkP (zs.getD i (0, 0)) := by
  rw [List.getD_eq_getElem?_getD, List.getD_eq_getElem?_getD, List.getElem?_map]
  cases zs[i]? <;> rfl
theorem pass_end {N b : Nat} {at_ : Int} {v v' : Value} {ws : List S95} {w w1 : World} (hb1 : w1.heap[b]? = some (.cells #[.int .i64 at_, v'] 90 (0, 0))) (hR1 : k95.R 95 w1 N (fun _ => True) v' ws) (hB : Below N w w1) (hN : N ≤ b)
    (hF : ∀ k, k < w.heap.size → k ≠ b → some k ≠ v.ownBlock → w1.heap[k]? = w.heap[k]?) (hO : v'.ownBlock = v.ownBlock ∨ ∃ k, v'.ownBlock = some k ∧ w.heap.size ≤ k) (x : Int) :
    ∃ v2, (w1.setCell ⟨b, 0, none⟩ (.int .i64 x)).heap[b]? = some (.cells #[.int .i64 x, v2] 90 (0, 0)) ∧ k95.R 95 (w1.setCell ⟨b, 0, none⟩ (.int .i64 x)) N (fun _ => True) v2 ws ∧ Below N w (w1.setCell ⟨b, 0, none⟩ (.int .i64 x)) ∧
      (∀ k, k < w.heap.size → k ≠ b → some k ≠ v.ownBlock → (w1.setCell ⟨b, 0, none⟩ (.int .i64 x)).heap[k]? = w.heap[k]?) ∧ (v2.ownBlock = v.ownBlock ∨ ∃ k, v2.ownBlock = some k ∧ w.heap.size ≤ k) :=
  ⟨v', blk_put hb1 0 _ rfl, Kd.R_set hR1 hb1 (by decide) 0 _, hB.setCell (p := ⟨b, 0, none⟩) hN _, fun k h1 h2 h3 => (Below.heap_setCell w1 ⟨b, 0, none⟩ _ k h2).trans (hF k h1 h2 h3), hO⟩
set_option maxHeartbeats 4000000 in
set_option maxRecDepth 100000 in
theorem worddiff_pass_w (N b : Nat) (at_ : Int) (v : Value) (zs : List Pr) (token : ByteArray) (m : Bool) (w : World) (hb : w.heap[b]? = some (.cells #[.int .i64 at_, v] 90 (0, 0))) (hR : k95.R 95 w N (fun _ => True) v (zs.map mkP)) (hN : N ≤ b)
    (h0 : 0 ≤ at_) (h1 : at_ + token.size ≤ 1000000) (hl : zs.length ≤ 1000000) :
    Calls Try.prog 66 #[.pointer (some ⟨b, 0, none⟩), .string token, .bool m] w fun e w' => e = .returned (.tuple #[]) ∧ ∃ v', w'.heap[b]? = some (.cells #[.int .i64 (markStep (at_, zs) token.size m).1, v'] 90 (0, 0)) ∧ k95.R 95 w' N (fun _ => True) v' ((markStep (at_, zs) token.size m).2.map mkP) ∧
      Below N w w' ∧ (∀ k, k < w.heap.size → k ≠ b → some k ≠ v.ownBlock → w'.heap[k]? = w.heap[k]?) ∧ (v'.ownBlock = v.ownBlock ∨ ∃ k, v'.ownBlock = some k ∧ w.heap.size ≤ k) := by
  have HB := Aside0.mk hb
  have HR := Aside0.mk hR
  obtain ⟨A, c, hvv⟩ := Kd.R_slice hR
  rw [List.length_map] at hvv
  subst hvv
  obtain ⟨hn, hnc, HC⟩ := Kd.R_reads' hR
  have hcz0 := hC HB 0 (.int .i64 at_)
  have hcz1 := hC HB 1 (.slice A zs.length c)
  have hfz0 := blk_frozen HB.out 0
  have hfz1 := blk_frozen HB.out 1
  clear hb hR hn
  have hu90 := Try.underlying90
  have hu95 := Try.underlying95
  go_enter Try.func66, Try.ntmps66
  cases m with
  | false =>
    go_wp2
    go_end0
    exact ⟨rfl, pass_end HB.out HR.out (Below.refl _ _) hN (fun _ _ _ _ => rfl) (.inl rfl) _⟩
  | true =>
    by_cases hz : zs = []
    · subst hz
      go_wp2_with fail
      refine still_drew (by kernel_rfl) (by kernel_rfl) ?_
      iterate 3 (refine still_yes (by kernel_rfl) (fun K hK => ?_); go_simp; refine hK _ ?_; clear hK K)
      iterate 13 (refine still_no (by kernel_rfl) ?_; simp only [Act.put, List.setIfInBounds_toArray, List.set_cons_zero, List.set_cons_succ])
      iterate 2 (refine still_yes (by kernel_rfl) (fun K hK => ?_); go_simp; refine hK _ ?_; clear hK K)
      refine wpStill_nil ?_
      have HB0 := Aside0.mk hcz0
      have HB1 := Aside0.mk hcz1
      have HBd := Aside0.mk (blk_drew HB.out)
      have HRd := Aside0.mk (Kd.R_drew HR.out)
      go_wp2_with fail
      refine held_tail_drew (fun W_ => W_.cell? ⟨b, 0, none⟩ = some (.int .i64 at_) ∧ W_.cell? ⟨b, 1, none⟩ = some (.slice A ([] : List Pr).length c)) 11 (by kernel_rfl) (by kernel_rfl) (fun _ _ _ d_ _ h_ => by cases d_ <;> exact h_) ⟨HB0.out, HB1.out⟩ ?_
      intro wf hwf
      have HBf := Aside0.mk (show wf.heap[b]? = some (.cells #[.int .i64 at_, .slice A ([] : List Pr).length c] 90 (0, 0)) from hwf ▸ HBd.out)
      have HRf := Aside0.mk (show k95.R 95 wf N (fun _ => True) (.slice A ([] : List Pr).length c) ((([] : List Pr)).map mkP) from hwf ▸ Kd.R_drew HRd.out)
      have HBw := Aside0.mk (show Below N w wf from hwf ▸ (Below.refl N w).drew.drew)
      have HSf := Aside0.mk (show wf.heap = w.heap from by rw [← hwf]; rfl)
      clear hwf
      simp only [List.take_succ_cons, List.take_zero, List.drop_succ_cons, List.drop_zero]
      refine held_yes (.pointer (some ⟨b, 0, none⟩)) (by kernel_rfl) (fun W_ hW_ => by obtain ⟨y1_, y2_⟩ := hW_; go_simp) ?_
      simp only [Act.put, List.setIfInBounds_toArray, List.set_cons_zero, List.set_cons_succ]
      refine held_yes (.pointer (some ⟨b, 0, none⟩)) (by kernel_rfl) (fun W_ hW_ => by obtain ⟨y1_, y2_⟩ := hW_; go_simp) ?_
      simp only [Act.put, List.setIfInBounds_toArray, List.set_cons_zero, List.set_cons_succ]
      refine held_yes (.pointer (some ⟨b, 0, none⟩)) (by kernel_rfl) (fun W_ hW_ => by obtain ⟨y1_, y2_⟩ := hW_; go_simp) ?_
      simp only [Act.put, List.setIfInBounds_toArray, List.set_cons_zero, List.set_cons_succ]
      refine held_yes (.pointer (some ⟨b, 1, none⟩)) (by kernel_rfl) (fun W_ hW_ => by obtain ⟨y1_, y2_⟩ := hW_; go_simp) ?_
      simp only [Act.put, List.setIfInBounds_toArray, List.set_cons_zero, List.set_cons_succ]
      refine held_yes (.slice A ([] : List Pr).length c) (by kernel_rfl) (fun W_ hW_ => by obtain ⟨y1_, y2_⟩ := hW_; go_simp) ?_
      simp only [Act.put, List.setIfInBounds_toArray, List.set_cons_zero, List.set_cons_succ]
      refine held_yes (.pointer (some ⟨b, 0, none⟩)) (by kernel_rfl) (fun W_ hW_ => by obtain ⟨y1_, y2_⟩ := hW_; go_simp) ?_
      simp only [Act.put, List.setIfInBounds_toArray, List.set_cons_zero, List.set_cons_succ]
      refine held_yes (.pointer (some ⟨b, 0, none⟩)) (by kernel_rfl) (fun W_ hW_ => by obtain ⟨y1_, y2_⟩ := hW_; go_simp) ?_
      simp only [Act.put, List.setIfInBounds_toArray, List.set_cons_zero, List.set_cons_succ]
      refine held_yes (.pointer (some ⟨b, 0, none⟩)) (by kernel_rfl) (fun W_ hW_ => by obtain ⟨y1_, y2_⟩ := hW_; go_simp) ?_
      simp only [Act.put, List.setIfInBounds_toArray, List.set_cons_zero, List.set_cons_succ]
      refine held_yes (.int .i64 at_) (by kernel_rfl) (fun W_ hW_ => by obtain ⟨y1_, y2_⟩ := hW_; go_simp) ?_
      simp only [Act.put, List.setIfInBounds_toArray, List.set_cons_zero, List.set_cons_succ]
      refine held_yes (.int .i64 (at_ + token.size)) (by kernel_rfl) (fun W_ hW_ => by obtain ⟨y1_, y2_⟩ := hW_; go_simp) ?_
      simp only [Act.put, List.setIfInBounds_toArray, List.set_cons_zero, List.set_cons_succ]
      refine held_yes (.agg #[.int .i64 at_, .int .i64 (at_ + token.size)]) (by kernel_rfl) (fun W_ hW_ => by obtain ⟨y1_, y2_⟩ := hW_; go_simp) ?_
      simp only [Act.put, List.setIfInBounds_toArray, List.set_cons_zero, List.set_cons_succ]
      refine held_nil ?_
      refine listS_step ?_
      go_wp2_with fail
      have hbs := blk_lt HBf.out
      refine thenS_intro (fun _ => ⟨(World.cell?_of_block (w := wf) (Below.heap_alloc _ _ _ hbs)).trans (blk_cell HBf.out 0), (World.cell?_of_block (w := wf) (Below.heap_alloc _ _ _ hbs)).trans (blk_cell HBf.out 1)⟩) ?_
      refine listS_step ?_
      refine Kd.R_append k95 (w0 := w) N rfl (.tmp 25) (.tmp 32) 51 95 (.agg #[.int .i64 0, .int .i64 0]) 16 rfl Try.underlying51 worddiff_info95 rfl (by decide) (by omega) _ ((([] : List Pr)).map mkP) (mkP (at_, at_ + token.size)) [.int .i64 at_, .int .i64 (at_ + token.size)] (fun _ => True) (fun _ => False) rfl rfl (k95_mkM _ _ _ (mkP (at_, at_ + token.size))) (fun _ hk => hk.elim) (fun _ _ => trivial) HRf.out HBw.out (by rw [HSf.out]; exact Nat.le_trans hN (Nat.le_of_lt (blk_lt HB.out))) (by rw [List.length_map]; omega) ?_
      intro v1 w1 hoN hbN hgN hatN
      have hbb := (hgN.block b hbs (fun e_ => by have := Kd.R_types HRf.out HBf.out (by decide); exact (this.1 b e_.symm).2 rfl)).trans HBf.out
      refine thenS_intro (fun _ => ⟨blk_cell hbb 0, blk_cell hbb 1⟩) ?_
      refine listS_step ?_
      go_wp2_with fail
      refine thenS_intro (fun _ => ⟨blk_cell hbb 0, blk_cell hbb 1⟩) ?_
      refine listS_step ?_
      go_wp2_with fail
      refine thenS_intro (fun _ => ⟨blk_cell hbb 0, blk_cell hbb 1⟩) ?_
      refine listS_step ?_
      have hc1 := blk_cell hbb 1
      have hc0 := blk_cell hbb 0
      have hz1 := blk_frozen hbb 1
      have hz0 := blk_frozen hbb 0
      obtain ⟨A1, c1, hv1⟩ := Kd.R_slice hoN
      subst hv1
      have HbN := Aside0.mk hbN
      have HgN := Aside0.mk hgN
      have HoN := Aside0.mk hoN
      have HaN := Aside0.mk hatN
      have Hbb := Aside0.mk hbb
      clear hbN hgN hoN hatN hbb
      go_wp2_with fail
      refine thenS_intro (fun h_ => absurd rfl h_) (listS_nil ?_)
      have hc3 := blk_cell (blk_put Hbb.out 1 (.slice A1 (((([] : List Pr)).map mkP) ++ [mkP (at_, at_ + token.size)]).length c1) rfl) 0
      have hz3 := blk_frozen (blk_put Hbb.out 1 (.slice A1 (((([] : List Pr)).map mkP) ++ [mkP (at_, at_ + token.size)]).length c1) rfl) 0
      go_wp2
      go_end0
      refine ⟨rfl, ?_⟩
      have e2 : (markStep (at_, ([] : List Pr)) token.size true).2.map mkP = ((([] : List Pr)).map mkP) ++ [mkP (at_, at_ + token.size)] := by
        unfold markStep
        rw [if_pos rfl, if_neg (by simp), List.map_append]
        rfl
      rw [e2]
      have hws : ∀ k, k < w.heap.size → k < wf.heap.size := fun k hk => by rw [HSf.out]; exact hk
      exact pass_end (blk_put Hbb.out 1 _ rfl) (Kd.R_set HoN.out Hbb.out (by decide) 1 _) (HbN.out.setCell (p := ⟨b, 1, none⟩) hN _) hN (fun k h1_ h2_ h3_ => (Below.heap_setCell w1 ⟨b, 1, none⟩ _ k h2_).trans ((HgN.out.block k (hws k h1_) h3_).trans (by rw [HSf.out]))) (HaN.out.imp id (fun ⟨z, z1, z2⟩ => ⟨z, z1, by rw [← HSf.out]; exact z2⟩)) _
    · have hp : 0 < zs.length := List.length_pos_iff.2 hz
      obtain ⟨g, cap, hv, hgb, hgl, cells, hcells⟩ := Kd.R_form HR.out (by rw [List.length_map]; exact hp)
      injection hv with hv1 hvl hv2
      clear hvl
      subst hv1; subst hv2
      obtain ⟨cc, k1, k2, k3, k4⟩ := Kd.R_elem HR.out z95 ((zs.length : Int) - 1) (by omega) (by omega)
      obtain rfl := k95_openM k2
      rw [show ((zs.length : Int) - 1).toNat = zs.length - 1 by omega, mkP_getD, show k95.sz = 2 from rfl] at k3
      rw [show ((zs.length : Int) - 1).toNat = zs.length - 1 by omega, show k95.sz = 2 from rfl] at k4
      have hl1 := k3 1 _ rfl
      have hf1 := k4 1
      have HL := Aside0.mk hl1
      have HF := Aside0.mk hf1
      have HB0 := Aside0.mk hcz0
      have HB1 := Aside0.mk hcz1
      have HBd := Aside0.mk (blk_drew HB.out)
      have HRd := Aside0.mk (Kd.R_drew HR.out)
      have HK3 := Aside0.mk k3
      clear k1 k2 k3 k4 hcells
      generalize hla : zs.getD (zs.length - 1) (0, 0) = la at *
      have HLA := Aside0.mk hla
      clear hla
      have hm1 : (mkP la).f1 = la.2 := rfl
      rw [hm1] at hl1
      have ez : (0 : Int) ≤ (zs.length : Int) - 1 := by omega
      have ez2 : (zs.length : Int) - 1 < zs.length := by omega
      have ez3 : ((zs.length : Int) - 1).toNat = zs.length - 1 := by omega
      have ez4 : (1 : Int) ≤ (zs.length : Int) := by omega
      by_cases hE : la.2 = at_
      · have hE' : (la.2 == at_) = true := by simp [hE]
        go_wp2_with fail
        refine still_drew (by kernel_rfl) (by kernel_rfl) ?_
        iterate 18 (refine still_yes (by kernel_rfl) (fun K hK => ?_); go_simp; refine hK _ ?_; clear hK K)
        refine wpStill_nil ?_
        have hf1d : w.drew.frozen? ⟨g, (zs.length - 1) * 2 + 1, none⟩ = false := HF.out
        have hl1d : w.drew.cell? ⟨g, (zs.length - 1) * 2 + 1, none⟩ = some (.int .i64 la.2) := hl1
        have hne : ¬ g = b := fun e_ => by have := Kd.R_types HR.out HB.out (by decide); exact (this.1 g rfl).2 e_
        have hne' : ¬ b = g := fun e_ => hne e_.symm
        go_wp2
        go_end0
        refine ⟨rfl, ?_⟩
        have e2 : (markStep (at_, zs) token.size true).2.map mkP = (zs.map mkP).set (zs.length - 1) (mkP (la.1, at_ + token.size)) := by
          unfold markStep
          rw [if_pos rfl, if_pos ⟨hp, by rw [HLA.out]; exact hE⟩, List.map_set, HLA.out]
        rw [e2]
        have hseg := (Kd.R_seg (okp := fun _ => False) HR.out ((zs.length : Int) - 1) (by omega) (by omega) (c := [.int .i64 la.1, .int .i64 la.2]) (seg := [.int .i64 (at_ + token.size)]) (j := 1) rfl (by rw [ez3]; exact HK3.out) (Nat.le_refl _) (x' := mkP (la.1, at_ + token.size)) (k95_mkM _ _ _ (mkP (la.1, at_ + token.size))) (fun _ hk => hk.elim)).1
        rw [ez3] at hseg
        obtain ⟨v2, p1, p2, p3, p4, p5⟩ := pass_end (w := w) (v := .slice (some ⟨g, 0, none⟩) zs.length c) (w1 := w.setCell ⟨g, (zs.length - 1) * 2 + 1, none⟩ (.int .i64 (at_ + token.size))) ((Below.heap_setCell w ⟨g, (zs.length - 1) * 2 + 1, none⟩ _ b hne').trans HB.out) hseg ((Below.refl N w).setCell (p := ⟨g, (zs.length - 1) * 2 + 1, none⟩) hgb _) hN (fun k h1_ h2_ h3_ => Below.heap_setCell w ⟨g, (zs.length - 1) * 2 + 1, none⟩ _ k (fun e_ => h3_ (by rw [e_]; rfl))) (.inl rfl) (at_ + token.size)
        exact ⟨v2, p1, Kd.R_drew p2, p3.drew, p4, p5⟩
      · have hE' : (la.2 == at_) = false := by simp [hE]
        go_wp2_with fail
        refine still_drew (by kernel_rfl) (by kernel_rfl) ?_
        iterate 18 (refine still_yes (by kernel_rfl) (fun K hK => ?_); go_simp; refine hK _ ?_; clear hK K)
        refine wpStill_nil ?_
        go_wp2_with fail
        refine held_tail_drew (fun W_ => W_.cell? ⟨b, 0, none⟩ = some (.int .i64 at_) ∧ W_.cell? ⟨b, 1, none⟩ = some (.slice (some ⟨g, 0, none⟩) zs.length c)) 11 (by kernel_rfl) (by kernel_rfl) (fun _ _ _ d_ _ h_ => by cases d_ <;> exact h_) ⟨HB0.out, HB1.out⟩ ?_
        intro wf hwf
        have HBf := Aside0.mk (show wf.heap[b]? = some (.cells #[.int .i64 at_, .slice (some ⟨g, 0, none⟩) zs.length c] 90 (0, 0)) from hwf ▸ HBd.out)
        have HRf := Aside0.mk (show k95.R 95 wf N (fun _ => True) (.slice (some ⟨g, 0, none⟩) zs.length c) (zs.map mkP) from hwf ▸ Kd.R_drew HRd.out)
        have HBw := Aside0.mk (show Below N w wf from hwf ▸ (Below.refl N w).drew.drew)
        have HSf := Aside0.mk (show wf.heap = w.heap from by rw [← hwf]; rfl)
        clear hwf
        simp only [List.take_succ_cons, List.take_zero, List.drop_succ_cons, List.drop_zero]
        refine held_yes (.pointer (some ⟨b, 0, none⟩)) (by kernel_rfl) (fun W_ hW_ => by obtain ⟨y1_, y2_⟩ := hW_; go_simp) ?_
        simp only [Act.put, List.setIfInBounds_toArray, List.set_cons_zero, List.set_cons_succ]
        refine held_yes (.pointer (some ⟨b, 0, none⟩)) (by kernel_rfl) (fun W_ hW_ => by obtain ⟨y1_, y2_⟩ := hW_; go_simp) ?_
        simp only [Act.put, List.setIfInBounds_toArray, List.set_cons_zero, List.set_cons_succ]
        refine held_yes (.pointer (some ⟨b, 0, none⟩)) (by kernel_rfl) (fun W_ hW_ => by obtain ⟨y1_, y2_⟩ := hW_; go_simp) ?_
        simp only [Act.put, List.setIfInBounds_toArray, List.set_cons_zero, List.set_cons_succ]
        refine held_yes (.pointer (some ⟨b, 1, none⟩)) (by kernel_rfl) (fun W_ hW_ => by obtain ⟨y1_, y2_⟩ := hW_; go_simp) ?_
        simp only [Act.put, List.setIfInBounds_toArray, List.set_cons_zero, List.set_cons_succ]
        refine held_yes (.slice (some ⟨g, 0, none⟩) zs.length c) (by kernel_rfl) (fun W_ hW_ => by obtain ⟨y1_, y2_⟩ := hW_; go_simp) ?_
        simp only [Act.put, List.setIfInBounds_toArray, List.set_cons_zero, List.set_cons_succ]
        refine held_yes (.pointer (some ⟨b, 0, none⟩)) (by kernel_rfl) (fun W_ hW_ => by obtain ⟨y1_, y2_⟩ := hW_; go_simp) ?_
        simp only [Act.put, List.setIfInBounds_toArray, List.set_cons_zero, List.set_cons_succ]
        refine held_yes (.pointer (some ⟨b, 0, none⟩)) (by kernel_rfl) (fun W_ hW_ => by obtain ⟨y1_, y2_⟩ := hW_; go_simp) ?_
        simp only [Act.put, List.setIfInBounds_toArray, List.set_cons_zero, List.set_cons_succ]
        refine held_yes (.pointer (some ⟨b, 0, none⟩)) (by kernel_rfl) (fun W_ hW_ => by obtain ⟨y1_, y2_⟩ := hW_; go_simp) ?_
        simp only [Act.put, List.setIfInBounds_toArray, List.set_cons_zero, List.set_cons_succ]
        refine held_yes (.int .i64 at_) (by kernel_rfl) (fun W_ hW_ => by obtain ⟨y1_, y2_⟩ := hW_; go_simp) ?_
        simp only [Act.put, List.setIfInBounds_toArray, List.set_cons_zero, List.set_cons_succ]
        refine held_yes (.int .i64 (at_ + token.size)) (by kernel_rfl) (fun W_ hW_ => by obtain ⟨y1_, y2_⟩ := hW_; go_simp) ?_
        simp only [Act.put, List.setIfInBounds_toArray, List.set_cons_zero, List.set_cons_succ]
        refine held_yes (.agg #[.int .i64 at_, .int .i64 (at_ + token.size)]) (by kernel_rfl) (fun W_ hW_ => by obtain ⟨y1_, y2_⟩ := hW_; go_simp) ?_
        simp only [Act.put, List.setIfInBounds_toArray, List.set_cons_zero, List.set_cons_succ]
        refine held_nil ?_
        refine listS_step ?_
        go_wp2_with fail
        have hbs := blk_lt HBf.out
        refine thenS_intro (fun _ => ⟨(World.cell?_of_block (w := wf) (Below.heap_alloc _ _ _ hbs)).trans (blk_cell HBf.out 0), (World.cell?_of_block (w := wf) (Below.heap_alloc _ _ _ hbs)).trans (blk_cell HBf.out 1)⟩) ?_
        refine listS_step ?_
        refine Kd.R_append k95 (w0 := w) N rfl (.tmp 25) (.tmp 32) 51 95 (.agg #[.int .i64 0, .int .i64 0]) 16 rfl Try.underlying51 worddiff_info95 rfl (by decide) (by omega) _ (zs.map mkP) (mkP (at_, at_ + token.size)) [.int .i64 at_, .int .i64 (at_ + token.size)] (fun _ => True) (fun _ => False) rfl rfl (k95_mkM _ _ _ (mkP (at_, at_ + token.size))) (fun _ hk => hk.elim) (fun _ _ => trivial) HRf.out HBw.out (by rw [HSf.out]; exact Nat.le_trans hN (Nat.le_of_lt (blk_lt HB.out))) (by rw [List.length_map]; omega) ?_
        intro v1 w1 hoN hbN hgN hatN
        have hbb := (hgN.block b hbs (fun e_ => by have := Kd.R_types HRf.out HBf.out (by decide); exact (this.1 b e_.symm).2 rfl)).trans HBf.out
        refine thenS_intro (fun _ => ⟨blk_cell hbb 0, blk_cell hbb 1⟩) ?_
        refine listS_step ?_
        go_wp2_with fail
        refine thenS_intro (fun _ => ⟨blk_cell hbb 0, blk_cell hbb 1⟩) ?_
        refine listS_step ?_
        go_wp2_with fail
        refine thenS_intro (fun _ => ⟨blk_cell hbb 0, blk_cell hbb 1⟩) ?_
        refine listS_step ?_
        have hc1 := blk_cell hbb 1
        have hc0 := blk_cell hbb 0
        have hz1 := blk_frozen hbb 1
        have hz0 := blk_frozen hbb 0
        obtain ⟨A1, c1, hv1⟩ := Kd.R_slice hoN
        rw [show ((zs.map mkP) ++ [mkP (at_, at_ + token.size)]).length = zs.length + 1 by simp] at hv1
        subst hv1
        have HbN := Aside0.mk hbN
        have HgN := Aside0.mk hgN
        have HoN := Aside0.mk hoN
        have HaN := Aside0.mk hatN
        have Hbb := Aside0.mk hbb
        clear hbN hgN hoN hatN hbb
        go_wp2_with fail
        refine thenS_intro (fun h_ => absurd rfl h_) (listS_nil ?_)
        have hc3 := blk_cell (blk_put Hbb.out 1 (.slice A1 (zs.length + 1) c1) rfl) 0
        have hz3 := blk_frozen (blk_put Hbb.out 1 (.slice A1 (zs.length + 1) c1) rfl) 0
        go_wp2
        go_end0
        refine ⟨rfl, ?_⟩
        have e2 : (markStep (at_, zs) token.size true).2.map mkP = (zs.map mkP) ++ [mkP (at_, at_ + token.size)] := by
          unfold markStep
          rw [if_pos rfl, if_neg (fun h_ => hE (by rw [← HLA.out]; exact h_.2)), List.map_append]
          rfl
        rw [e2]
        have hws : ∀ k, k < w.heap.size → k < wf.heap.size := fun k hk => by rw [HSf.out]; exact hk
        exact pass_end (blk_put Hbb.out 1 _ rfl) (Kd.R_set HoN.out Hbb.out (by decide) 1 _) (HbN.out.setCell (p := ⟨b, 1, none⟩) hN _) hN (fun k h1_ h2_ h3_ => (Below.heap_setCell w1 ⟨b, 1, none⟩ _ k h2_).trans ((HgN.out.block k (hws k h1_) h3_).trans (by rw [HSf.out]))) (HaN.out.imp id (fun ⟨z, z1, z2⟩ => ⟨z, z1, by rw [← HSf.out]; exact z2⟩)) _
theorem pass_other {N b b2 : Nat} {v v' u : Value} {x y : Int} {ws us : List S95} {w w' : World} (hb : w.heap[b]? = some (.cells #[.int .i64 x, v] 90 (0, 0))) (hR : k95.R 95 w N (fun _ => True) v ws) (hb2 : w.heap[b2]? = some (.cells #[.int .i64 y, u] 90 (0, 0))) (hR2 : k95.R 95 w N (fun _ => True) u us) (hne : b2 ≠ b)
    (hD : ∀ k, v.ownBlock = some k → u.ownBlock = some k → False) (hF : ∀ k, k < w.heap.size → k ≠ b → some k ≠ v.ownBlock → w'.heap[k]? = w.heap[k]?) (hO : v'.ownBlock = v.ownBlock ∨ ∃ k, v'.ownBlock = some k ∧ w.heap.size ≤ k) :
    w'.heap[b2]? = some (.cells #[.int .i64 y, u] 90 (0, 0)) ∧ k95.R 95 w' N (fun _ => True) u us ∧ ∀ k, v'.ownBlock = some k → u.ownBlock = some k → False := by
  have t1 := Kd.R_types hR hb2 (by decide)
  have t2 := Kd.R_types hR2 hb (by decide)
  refine ⟨(hF b2 (blk_lt hb2) hne (fun e_ => (t1.1 b2 e_.symm).2 rfl)).trans hb2, ?_, fun k h1 h2 => ?_⟩
  · exact Kd.R_mono (Kd.R_step (Kd.R_tight rfl hR2) (fun k ho hk => hF k hk (t2.1 k ho.symm).2 (fun e_ => hD k e_.symm ho.symm))) (fun _ _ => trivial)
  · rcases hO with e | ⟨z, z1, z2⟩
    · exact hD k (e ▸ h1) h2
    · have := Kd.R_lt hR2 k h2
      rw [h1] at z1
      injection z1 with z1
      omega
set_option maxHeartbeats 40000000 in
set_option maxRecDepth 100000 in
theorem worddiff_Highlight.calls (a0 : ByteArray) (a1 : ByteArray) (r1 : List (S95)) (r2 : List (S95)) (r3 : Int) (r4 : Int) (w : World) (h : worddiff_Highlight.f a0 a1 = some (r1, r2, r3, r4)) :
    Calls Try.prog 34 #[.string a0, .string a1] w fun e w' => ∃ v0_ v1_ : Value, e = .returned (.tuple #[v0_, v1_, .agg #[.int .i64 r3, .int .i64 r4]]) ∧ Kd.R k95 95 w' w.heap.size (fun k_ => some k_ ≠ (v1_ : Value).ownBlock) v0_ r1 ∧ Kd.R k95 95 w' w.heap.size (fun k_ => some k_ ≠ (v0_ : Value).ownBlock) v1_ r2 ∧ Below w.heap.size w w' := by
  have hu24 := Try.underlying24
  have hu90 := Try.underlying90
  have HB := Aside0.mk (Below.refl w.heap.size w)
  have HH := Aside0.mk h
  clear h
  obtain ⟨C0, hC0⟩ : ∃ c, c = (linesFault [a0]).1 := ⟨_, rfl⟩
  obtain ⟨C1, hC1⟩ : ∃ c, c = (linesFault [a1]).1 := ⟨_, rfl⟩
  have HC0 := Aside0.mk hC0
  have HC1 := Aside0.mk hC1
  clear hC0 hC1
  have hix0 := fun (W_ : World) => (show (Instr.index 88 (.agg #[.string a0, .string a1]) (.int .i64 0)).run Try.prog W_ = .ok (.string a0) W_ by kernel_rfl)
  have hix1 := fun (W_ : World) => (show (Instr.index 88 (.agg #[.string a0, .string a1]) (.int .i64 1)).run Try.prog W_ = .ok (.string a1) W_ by kernel_rfl)
  go_enter Try.func34, Try.ntmps34
  go_wp2_with ((with_reducible refine gate_dst (N := 6) rfl ?_);refine bE 6 #[.int .i64 0, .int .i64 0] 24 ?_;intro fb hg w5 hbox hb;have BKF := Aside0.mk (hbox);have GEF := gBe HB hg;replace HB := sBe HB hb;clear hb hbox hg)
  go_loopw [20] (fun v20 wr => ∃ x20 : Int, v20 = .int .i64 x20 ∧ Aside0 (x20 = 0 ∨ (x20 = 1 ∧ C0 = 0) ∨ (x20 = 2 ∧ C0 = 0 ∧ C1 = 0)) ∧ Bk wr fb 24 #[.int .i64 0, .int .i64 0] ∧ Aside0 (Below w.heap.size w wr)) (fun v20 wr => (2 - intOf v20).toNat)
  case atStart => exact ⟨0, rfl, ⟨.inl rfl⟩, BKF, HB⟩
  case round =>
    clear BKF HB
    obtain ⟨x20, rfl, HX, BKF, HB⟩ := hrel
    rcases HX.out with hx | ⟨hx, hc0⟩ | ⟨hx, hc0, hc1⟩
    · subst hx
      clear HX
      by_cases c1 : C0 = 0
      · have c1b : (C0 != 0) = false := by simp [c1]
        go_wp2_with (first|((with_reducible refine gate_dst (N := 25) rfl ?_);refine Kd.R_lit Kd.string _ 9 ?hg (N := 25) ?hd (xs := ([a0] : List ByteArray)) (inner := [.string a0]) (ok := fun _ => True) (okp := fun _ => True) ?hr ?hp (fun _ hk => hk) trivial (Below.refl _ _) (Nat.le_refl _) (by simp) ?_;(case hd => rfl);(case hg => rfl);(case hr => first|(go_simp;done)|(go_simp;rfl));(case hp => exact (Reps.one (show Kd.M Kd.string _ _ _ a0 [.string a0] from rfl) (Reps.none _ _)));intro v1 w6 ho7 hb hg_ hnew_;clear hg_ hnew_;have HO := Aside0.mk ho7;replace BKF := lJ BKF hb;replace HB := sBe HB hb;clear hb ho7;obtain ⟨Ao8, co8, eo8⟩ := Kd.R_slice HO.out;subst eo8))
        refine (lines_Code.calls Ao8 co8 [a0] C0 _ (Kd.R_reads' HO.out).2.2 (Kd.R_reads' HO.out).2.1 (by show some (linesFault [a0]).1 = some C0; rw [HC0.out])).mono ?_
        rintro e w9 ⟨rfl, hb⟩
        clear HO
        replace BKF := lJ BKF hb
        replace HB := sBe HB hb
        (try clear hb)
        go_wp2
        go_roundw
        case rel => exact ⟨1, by go_num, ⟨.inr (.inl ⟨rfl, c1⟩)⟩, BKF, HB⟩
        case measure => simp [intOf]
      · have c1b : (C0 != 0) = true := by simp [c1]
        go_wp2_with (first|((with_reducible refine gate_dst (N := 25) rfl ?_);refine Kd.R_lit Kd.string _ 9 ?hg (N := 25) ?hd (xs := ([a0] : List ByteArray)) (inner := [.string a0]) (ok := fun _ => True) (okp := fun _ => True) ?hr ?hp (fun _ hk => hk) trivial (Below.refl _ _) (Nat.le_refl _) (by simp) ?_;(case hd => rfl);(case hg => rfl);(case hr => first|(go_simp;done)|(go_simp;rfl));(case hp => exact (Reps.one (show Kd.M Kd.string _ _ _ a0 [.string a0] from rfl) (Reps.none _ _)));intro v1 w6 ho7 hb hg_ hnew_;clear hg_ hnew_;have HO := Aside0.mk ho7;replace BKF := lJ BKF hb;replace HB := sBe HB hb;clear hb ho7;obtain ⟨Ao8, co8, eo8⟩ := Kd.R_slice HO.out;subst eo8))
        refine (lines_Code.calls Ao8 co8 [a0] C0 _ (Kd.R_reads' HO.out).2.2 (Kd.R_reads' HO.out).2.1 (by show some (linesFault [a0]).1 = some C0; rw [HC0.out])).mono ?_
        rintro e w9 ⟨rfl, hb⟩
        clear HO
        replace BKF := lJ BKF hb
        replace HB := sBe HB hb
        (try clear hb)
        have hcF0 := hC BKF 0 (.int .i64 0)
        have hcF1 := hC BKF 1 (.int .i64 0)
        have hzF0 := blk_frozen BKF.out 0
        have hzF1 := blk_frozen BKF.out 1
        go_wp2
        have hh := HH.out
        unfold worddiff_Highlight.f at hh
        rw [← HC0.out, if_pos c1] at hh
        simp only [Option.some.injEq, Prod.mk.injEq] at hh
        obtain ⟨rfl, rfl, rfl, rfl⟩ := hh
        refine bodyPost_ret (results_list (rs := [.tmp 4, .tmp 5, .cell 6 24]) rfl (by simp) (.tmp (.tmp (.cell fb 24 #[.int .i64 C0, .int .i64 0] (0, 0) _ rfl (blk_put (cs := #[.int .i64 C0, .int .i64 0]) (blk_put (cs := #[.int .i64 0, .int .i64 0]) BKF.out 0 _ rfl) 1 _ rfl) Try.underlying24 rfl (by kernel_rfl) .nil)))) rfl ?_
        exact ⟨_, _, rfl, Kd.R_nil _ _ _ _ _, Kd.R_nil _ _ _ _ _, (HB.out.setCell (p := ⟨fb, 0, none⟩) GEF.out _).setCell (p := ⟨fb, 1, none⟩) GEF.out _⟩
    · subst hx
      clear HX
      by_cases c1 : C1 = 0
      · have c1b : (C1 != 0) = false := by simp [c1]
        go_wp2_with (first|((with_reducible refine gate_dst (N := 25) rfl ?_);refine Kd.R_lit Kd.string _ 9 ?hg (N := 25) ?hd (xs := ([a1] : List ByteArray)) (inner := [.string a1]) (ok := fun _ => True) (okp := fun _ => True) ?hr ?hp (fun _ hk => hk) trivial (Below.refl _ _) (Nat.le_refl _) (by simp) ?_;(case hd => rfl);(case hg => rfl);(case hr => first|(go_simp;done)|(go_simp;rfl));(case hp => exact (Reps.one (show Kd.M Kd.string _ _ _ a1 [.string a1] from rfl) (Reps.none _ _)));intro v1 w6 ho7 hb hg_ hnew_;clear hg_ hnew_;have HO := Aside0.mk ho7;replace BKF := lJ BKF hb;replace HB := sBe HB hb;clear hb ho7;obtain ⟨Ao8, co8, eo8⟩ := Kd.R_slice HO.out;subst eo8))
        refine (lines_Code.calls Ao8 co8 [a1] C1 _ (Kd.R_reads' HO.out).2.2 (Kd.R_reads' HO.out).2.1 (by show some (linesFault [a1]).1 = some C1; rw [HC1.out])).mono ?_
        rintro e w9 ⟨rfl, hb⟩
        clear HO
        replace BKF := lJ BKF hb
        replace HB := sBe HB hb
        (try clear hb)
        go_wp2
        go_roundw
        case rel => exact ⟨2, by go_num, ⟨.inr (.inr ⟨rfl, hc0, c1⟩)⟩, BKF, HB⟩
        case measure => simp [intOf]
      · have c1b : (C1 != 0) = true := by simp [c1]
        go_wp2_with (first|((with_reducible refine gate_dst (N := 25) rfl ?_);refine Kd.R_lit Kd.string _ 9 ?hg (N := 25) ?hd (xs := ([a1] : List ByteArray)) (inner := [.string a1]) (ok := fun _ => True) (okp := fun _ => True) ?hr ?hp (fun _ hk => hk) trivial (Below.refl _ _) (Nat.le_refl _) (by simp) ?_;(case hd => rfl);(case hg => rfl);(case hr => first|(go_simp;done)|(go_simp;rfl));(case hp => exact (Reps.one (show Kd.M Kd.string _ _ _ a1 [.string a1] from rfl) (Reps.none _ _)));intro v1 w6 ho7 hb hg_ hnew_;clear hg_ hnew_;have HO := Aside0.mk ho7;replace BKF := lJ BKF hb;replace HB := sBe HB hb;clear hb ho7;obtain ⟨Ao8, co8, eo8⟩ := Kd.R_slice HO.out;subst eo8))
        refine (lines_Code.calls Ao8 co8 [a1] C1 _ (Kd.R_reads' HO.out).2.2 (Kd.R_reads' HO.out).2.1 (by show some (linesFault [a1]).1 = some C1; rw [HC1.out])).mono ?_
        rintro e w9 ⟨rfl, hb⟩
        clear HO
        replace BKF := lJ BKF hb
        replace HB := sBe HB hb
        (try clear hb)
        have hcF0 := hC BKF 0 (.int .i64 0)
        have hcF1 := hC BKF 1 (.int .i64 0)
        have hzF0 := blk_frozen BKF.out 0
        have hzF1 := blk_frozen BKF.out 1
        go_wp2
        have hh := HH.out
        unfold worddiff_Highlight.f at hh
        rw [← HC0.out, if_neg (by simp [hc0]), ← HC1.out, if_pos c1] at hh
        simp only [Option.some.injEq, Prod.mk.injEq] at hh
        obtain ⟨rfl, rfl, rfl, rfl⟩ := hh
        refine bodyPost_ret (results_list (rs := [.tmp 4, .tmp 5, .cell 6 24]) rfl (by simp) (.tmp (.tmp (.cell fb 24 #[.int .i64 C1, .int .i64 1] (0, 0) _ rfl (blk_put (cs := #[.int .i64 C1, .int .i64 0]) (blk_put (cs := #[.int .i64 0, .int .i64 0]) BKF.out 0 _ rfl) 1 _ rfl) Try.underlying24 rfl (by kernel_rfl) .nil)))) rfl ?_
        exact ⟨_, _, rfl, Kd.R_nil _ _ _ _ _, Kd.R_nil _ _ _ _ _, (HB.out.setCell (p := ⟨fb, 0, none⟩) GEF.out _).setCell (p := ⟨fb, 1, none⟩) GEF.out _⟩
    · subst hx
      clear HX
      have hh := HH.out
      unfold worddiff_Highlight.f at hh
      rw [← HC0.out, if_neg (by simp [hc0]), ← HC1.out, if_neg (by simp [hc1])] at hh
      simp only [Option.some.injEq, Prod.mk.injEq] at hh
      obtain ⟨rfl, rfl, rfl, rfl⟩ := hh
      obtain ⟨hwa, hfa⟩ := words_small (a := a0) (by rw [← HC0.out]; exact hc0)
      obtain ⟨hwb, hfb⟩ := words_small (a := a1) (by rw [← HC1.out]; exact hc1)
      have hsa := line_size (a := a0) (by rw [← HC0.out]; exact hc0)
      have hsb := line_size (a := a1) (by rw [← HC1.out]; exact hc1)
      have HFA := Aside0.mk hfa
      have HFB := Aside0.mk hfb
      clear hfa hfb HH
      go_wp2_with fail
      refine (worddiff_split.calls a0 (words a0) _ (if_pos (by omega))).mono ?_
      rintro e wA ⟨vA, rfl, hoA, hb⟩
      replace BKF := lJ BKF hb
      replace HB := sBe HB hb
      clear hb
      obtain ⟨AA, cA, rfl⟩ := Kd.R_slice hoA
      have HOA := Aside0.mk hoA
      clear hoA
      go_wp2_with fail
      refine (worddiff_split.calls a1 (words a1) _ (if_pos (by omega))).mono ?_
      rintro e wB ⟨vB, rfl, hoB, hb⟩
      replace BKF := lJ BKF hb
      replace HB := sBe HB hb
      replace HOA := Aside0.mk (Kd.R_below HOA.out hb)
      clear hb
      obtain ⟨AB, cB, rfl⟩ := Kd.R_slice hoB
      have HOB := Aside0.mk hoB
      clear hoB
      go_wp2_with fail
      refine (worddiff_common.calls AA cA (words a0) AB cB (words a1) (lcsTab (words a0) (words a1)) _ (Kd.R_reads' HOA.out).2.2 (Kd.R_reads' HOA.out).2.1 (Kd.R_reads' HOB.out).2.2 (Kd.R_reads' HOB.out).2.1 (if_pos ⟨by omega, by omega⟩)).mono ?_
      rintro e wT ⟨vT, rfl, hS, hb⟩
      replace BKF := lJ BKF hb
      replace HB := sBe HB hb
      have HRA := Aside0.mk (Kd.C_below (Kd.R_reads' HOA.out).2.2 hb)
      have HRB := Aside0.mk (Kd.C_below (Kd.R_reads' HOB.out).2.2 hb)
      clear hb HOA HOB
      generalize hA : words a0 = A at *
      generalize hB : words a1 = B at *
      have HA := Aside0.mk hA
      have HBB := Aside0.mk hB
      clear hA hB
      obtain ⟨g, cap, hv, hgb, hgl, _⟩ := Kd.S_form hS (by rw [show (lcsTab A B).length = A.length + 1 from tab_length _ _ _]; omega)
      rw [show (lcsTab A B).length = A.length + 1 from tab_length _ _ _] at hv
      subst hv
      have HS := Aside0.mk hS
      clear hS hgb hgl
      have HN := Aside0.mk HB.out.size
      have HFT := Aside0.mk (blk_lt BKF.out)
      have HBT := Aside0.mk (Below.refl wT.heap.size wT)
      go_wp2_with (first|((with_reducible refine gate_dst (N := 13) rfl ?_);refine bE 13 #[.int .i64 0, .slice none 0 0] 90 ?_;intro bx hg wX hbox hb;have BKX := Aside0.mk hbox;have HXN := Aside0.mk (show wT.heap.size ≤ bx from Nat.le_of_eq hg.symm);replace HBT := Aside0.mk (HBT.out.trans hb);clear hbox)|((with_reducible refine gate_dst (N := 14) rfl ?_);refine bE 14 #[.int .i64 0, .slice none 0 0] 90 ?_;intro by_ hg2 wY hbox hb2;have BKY := Aside0.mk hbox;have HYN := Aside0.mk (show wT.heap.size ≤ by_ from by rw [hg2]; exact HBT.out.size);have HXY := Aside0.mk (show bx ≠ by_ from by rw [hg2]; exact Nat.ne_of_lt (blk_lt BKX.out));replace BKX := Aside0.mk (blk_below BKX.out hb2);replace HBT := Aside0.mk (HBT.out.trans (hb2.mono HBT.out.size));clear hbox hb2 hg2 hb hg))
      go_loopw [15, 16] (fun v15 v16 wr => ∃ (p q : Nat) (sx sy : Int × List Pr) (vx vy : Value), v15 = .int .i64 p ∧ v16 = .int .i64 q ∧ Aside0 (p ≤ A.length ∧ q ≤ B.length ∧ sx.2.length ≤ p ∧ sy.2.length ≤ q ∧ 0 ≤ sx.1 ∧ 0 ≤ sy.1 ∧ sx.1 + ((flatStr (A.drop p)).size : Int) ≤ 80 ∧ sy.1 + ((flatStr (B.drop q)).size : Int) ≤ 80) ∧ Aside0 ((markRun 1 (al (A.drop p) (B.drop q)) sx).2 = marksOf 1 A B ∧ (markRun 2 (al (A.drop p) (B.drop q)) sy).2 = marksOf 2 A B) ∧ Bk wr bx 90 #[.int .i64 sx.1, vx] ∧ Bk wr by_ 90 #[.int .i64 sy.1, vy] ∧ Aside0 (k95.R 95 wr wT.heap.size (fun _ => True) vx (sx.2.map mkP)) ∧ Aside0 (k95.R 95 wr wT.heap.size (fun _ => True) vy (sy.2.map mkP)) ∧ Aside0 (∀ k, vx.ownBlock = some k → vy.ownBlock = some k → False) ∧ Aside0 (Below wT.heap.size wT wr)) (fun v15 v16 wr => A.length + B.length - (intOf v15).toNat - (intOf v16).toNat)
      case atStart => exact ⟨0, 0, (0, []), (0, []), .slice none 0 0, .slice none 0 0, rfl, rfl, ⟨by have := HFA.out; have := HFB.out; simp only [List.drop_zero, List.length_nil]; omega⟩, ⟨rfl, rfl⟩, BKX, BKY, ⟨Kd.R_nil _ _ _ _ _⟩, ⟨Kd.R_nil _ _ _ _ _⟩, ⟨fun k h_ => by simp [Value.ownBlock] at h_⟩, HBT⟩
      case round =>
        clear BKX BKY HBT
        obtain ⟨p, q, sx, sy, vx, vy, rfl, rfl, HI, HM, BKX, BKY, HRX, HRY, HD, HBT⟩ := hrel
        have hpl : p ≤ A.length := HI.out.1
        have hql : q ≤ B.length := HI.out.2.1
        by_cases hend : p = A.length ∧ q = B.length
        · have hnp : ¬ p < A.length := by omega
          have hnq : ¬ q < B.length := by omega
          have hmx : sx.2 = marksOf 1 A B := by
            have := HM.out.1
            rw [hend.1, hend.2, List.drop_length, List.drop_length, al_nil] at this
            exact this
          have hmy : sy.2 = marksOf 2 A B := by
            have := HM.out.2
            rw [hend.1, hend.2, List.drop_length, List.drop_length, al_nil] at this
            exact this
          obtain ⟨Ax, cx, hvx⟩ := Kd.R_slice HRX.out
          obtain ⟨Ay, cy, hvy⟩ := Kd.R_slice HRY.out
          rw [List.length_map] at hvx hvy
          subst hvx
          subst hvy
          have HBF := Aside0.mk ((HBT.out.block fb HFT.out).trans BKF.out)
          have HMX := Aside0.mk hmx
          have HMY := Aside0.mk hmy
          clear hmx hmy
          have hx1 := blk_cell BKX.out 1
          have hy1 := blk_cell BKY.out 1
          have hxf := blk_cell HBF.out 0
          have hyf := blk_cell HBF.out 1
          have hzf0 := blk_frozen HBF.out 0
          have hzf1 := blk_frozen HBF.out 1
          go_wp2
          refine still_tail_drew 7 (by kernel_rfl) (by kernel_rfl) ?_
          simp only [List.take_succ_cons, List.take_zero, List.drop_succ_cons, List.drop_zero]
          iterate 7 (refine still_yes (by kernel_rfl) (fun K hK => ?_); go_simp; refine hK _ ?_; clear hK K)
          refine wpStill_nil ?_
          go_wp2
          refine bodyPost_ret (results_list (rs := [.tmp 4, .tmp 5, .cell 6 24]) rfl (by simp) (.tmp (.tmp (.cell fb 24 #[.int .i64 0, .int .i64 0] (0, 0) _ rfl (blk_drew (blk_put (cs := #[.int .i64 0, .int .i64 0]) (blk_put (cs := #[.int .i64 0, .int .i64 0]) HBF.out 0 _ rfl) 1 _ rfl)) Try.underlying24 rfl (by kernel_rfl) .nil)))) rfl ?_
          refine ⟨_, _, rfl, ?_, ?_, (((HB.out.trans (HBT.out.mono HB.out.size)).setCell (p := ⟨fb, 0, none⟩) GEF.out _).setCell (p := ⟨fb, 1, none⟩) GEF.out _).drew⟩
          · rw [HA.out, HBB.out, ← HMX.out]
            exact Kd.R_mono (Kd.R_drew (Kd.R_set (Kd.R_set (Kd.R_lower (Kd.R_tight rfl HRX.out) HN.out) HBF.out (by decide) 0 _) (blk_put HBF.out 0 _ rfl) (by decide) 1 _)) (fun k hk e_ => HD.out k hk.symm e_.symm)
          · rw [HA.out, HBB.out, ← HMY.out]
            exact Kd.R_mono (Kd.R_drew (Kd.R_set (Kd.R_set (Kd.R_lower (Kd.R_tight rfl HRY.out) HN.out) HBF.out (by decide) 0 _) (blk_put HBF.out 0 _ rfl) (by decide) 1 _)) (fun k hk e_ => HD.out k e_.symm hk.symm)
        · have HOR := Aside0.mk (show p < A.length ∨ q < B.length by omega)
          have HEND := Aside0.mk hend
          clear hend
          go_upto_region 12 with (fail)
          go_cut [49] (fun v49 wc => v49 = .bool true ∧ wc = wr)
          case first =>
            rcases HOR.out with h | h
            · go_wp2
              go_meet
              case rel => exact ⟨rfl, rfl⟩
            · by_cases h2 : p < A.length
              · go_wp2
                go_meet
                case rel => exact ⟨rfl, rfl⟩
              · go_wp2
                go_meet
                case rel => exact ⟨rfl, rfl⟩
          case rest =>
            obtain ⟨rfl, rfl⟩ := hcut
            go_upto_region 15 with (fail)
            go_cut [57] (fun v57 w3 => ∃ cb, v57 = .bool cb ∧ ((cb = true) = (p < A.length ∧ q < B.length ∧ rdOf ByteArray.empty A (p : Int) = rdOf ByteArray.empty B (q : Int))) ∧ w3 = wc.drew)
            case first =>
              by_cases hp : p < A.length
              · by_cases hq : q < B.length
                · obtain ⟨ad0, e0, hx0⟩ := Kd.at_string HRA.out (p : Int) (by omega) (by omega)
                  cases e0
                  rw [Int.toNat_natCast] at hx0
                  replace hx0 := (HBT.out.cell (World.block_lt_of_cell? wT _ hx0)).trans hx0
                  obtain ⟨ad1, e1, hx1⟩ := Kd.at_string HRB.out (q : Int) (by omega) (by omega)
                  cases e1
                  rw [Int.toNat_natCast] at hx1
                  replace hx1 := (HBT.out.cell (World.block_lt_of_cell? wT _ hx1)).trans hx1
                  have HCM : Aside0 (((rdOf ByteArray.empty A (p : Int)).toList == (rdOf ByteArray.empty B (q : Int)).toList) = true ↔ (p < A.length ∧ q < B.length ∧ rdOf ByteArray.empty A (p : Int) = rdOf ByteArray.empty B (q : Int))) := ⟨by rw [beq_toList, decide_eq_true_iff]; exact ⟨fun z => ⟨hp, hq, z⟩, fun z => z.2.2⟩⟩
                  generalize rdOf ByteArray.empty A (p : Int) = s at *
                  generalize rdOf ByteArray.empty B (q : Int) = t at *
                  refine still_drew (by kernel_rfl) (by kernel_rfl) ?_
                  iterate 22 (refine still_yes (by kernel_rfl) (fun K hK => ?_); go_simp; refine hK _ ?_; clear hK K)
                  refine wpStill_nil ?_
                  go_wp2
                  go_meet
                  case rel => exact ⟨_, rfl, propext HCM.out, rfl⟩
                · refine still_drew (by kernel_rfl) (by kernel_rfl) ?_
                  iterate 11 (refine still_yes (by kernel_rfl) (fun K hK => ?_); go_simp; refine hK _ ?_; clear hK K)
                  iterate 9 (refine still_no (by kernel_rfl) ?_; simp only [Act.put, List.setIfInBounds_toArray, List.set_cons_zero, List.set_cons_succ])
                  iterate 2 (refine still_yes (by kernel_rfl) (fun K hK => ?_); go_simp; refine hK _ ?_; clear hK K)
                  refine wpStill_nil ?_
                  go_wp2
                  go_meet
                  case rel => exact ⟨_, rfl, by simp [hq], rfl⟩
              · refine still_drew (by kernel_rfl) (by kernel_rfl) ?_
                iterate 5 (refine still_yes (by kernel_rfl) (fun K hK => ?_); go_simp; refine hK _ ?_; clear hK K)
                iterate 4 (refine still_no (by kernel_rfl) ?_; simp only [Act.put, List.setIfInBounds_toArray, List.set_cons_zero, List.set_cons_succ])
                iterate 2 (refine still_yes (by kernel_rfl) (fun K hK => ?_); go_simp; refine hK _ ?_; clear hK K)
                iterate 9 (refine still_no (by kernel_rfl) ?_; simp only [Act.put, List.setIfInBounds_toArray, List.set_cons_zero, List.set_cons_succ])
                iterate 2 (refine still_yes (by kernel_rfl) (fun K hK => ?_); go_simp; refine hK _ ?_; clear hK K)
                refine wpStill_nil ?_
                go_wp2
                go_meet
                case rel => exact ⟨_, rfl, by simp [hp], rfl⟩
            case rest =>
              obtain ⟨cb, rfl, hcb, hw3⟩ := hcut
              have BKX2 : Bk wc bx 90 #[.int .i64 sx.1, vx] := ⟨by rw [hw3]; exact blk_drew BKX.out⟩
              have BKY2 : Bk wc by_ 90 #[.int .i64 sy.1, vy] := ⟨by rw [hw3]; exact blk_drew BKY.out⟩
              have HRX2 : Aside0 (k95.R 95 wc wT.heap.size (fun _ => True) vx (sx.2.map mkP)) := ⟨by rw [hw3]; exact Kd.R_drew HRX.out⟩
              have HRY2 : Aside0 (k95.R 95 wc wT.heap.size (fun _ => True) vy (sy.2.map mkP)) := ⟨by rw [hw3]; exact Kd.R_drew HRY.out⟩
              have HBT2 : Aside0 (Below wT.heap.size wT wc) := ⟨by rw [hw3]; exact HBT.out.drew⟩
              clear BKX BKY HRX HRY HBT hw3
              have HCB := Aside0.mk hcb
              clear hcb
              cases cb with
              | true =>
                obtain ⟨hp, hq, heq⟩ := Eq.mp HCB.out rfl
                have hal := al_keep_at hp hq heq
                have hfx := flat_step hp
                have hfy := flat_step hq
                rw [hal, markRun_keep, markRun_keep] at HM
                rw [hfx, hfy] at HI
                obtain ⟨ad0, e0, hx0⟩ := Kd.at_string HRA.out (p : Int) (by omega) (by omega)
                cases e0
                rw [Int.toNat_natCast] at hx0
                obtain ⟨ad1, e1, hx1⟩ := Kd.at_string HRB.out (q : Int) (by omega) (by omega)
                cases e1
                rw [Int.toNat_natCast] at hx1
                replace hx0 := (HBT2.out.cell (World.block_lt_of_cell? wT _ hx0)).trans hx0
                generalize rdOf ByteArray.empty A (p : Int) = s at *
                generalize rdOf ByteArray.empty B (q : Int) = t at *
                have HX0w := Aside0.mk hx1
                have HST := Aside0.mk heq
                clear hal hfx hfy heq hx1 HCB
                have hi := HI.out
                go_wp2_with fail
                refine (worddiff_pass_w wT.heap.size bx sx.1 vx sx.2 s false wc BKX2.out HRX2.out HXN.out (by omega) (by omega) (by omega)).mono ?_
                rintro e wP ⟨rfl, vxn, hb2, hr2, hB2, hF2, hO2⟩
                obtain ⟨ho1, ho2, ho3⟩ := pass_other BKX2.out HRX2.out BKY2.out HRY2.out (HXY.out.symm) HD.out hF2 hO2
                have M1 := Aside0.mk hb2
                have R1 := Aside0.mk hr2
                have O1 := Aside0.mk ho1
                have P1 := Aside0.mk ho2
                have D1 := Aside0.mk ho3
                have T1 := Aside0.mk (HBT2.out.trans hB2)
                clear hb2 hr2 hB2 hF2 hO2 ho1 ho2 ho3
                have HX1 := Aside0.mk ((T1.out.cell (World.block_lt_of_cell? wT _ HX0w.out)).trans HX0w.out)
                have hx1 := HX1.out
                clear hx0
                go_wp2_with fail
                refine (worddiff_pass_w wT.heap.size by_ sy.1 vy sy.2 t false wP O1.out P1.out HYN.out (by omega) (by omega) (by omega)).mono ?_
                rintro e wQ ⟨rfl, vyn, hb2, hr2, hB2, hF2, hO2⟩
                obtain ⟨ho1, ho2, ho3⟩ := pass_other O1.out P1.out M1.out R1.out (HXY.out) (fun k h1_ h2_ => D1.out k h2_ h1_) hF2 hO2
                have M2 := Aside0.mk hb2
                have R2 := Aside0.mk hr2
                have O2 := Aside0.mk ho1
                have P2 := Aside0.mk ho2
                have D2 := Aside0.mk ho3
                have T2 := Aside0.mk (T1.out.trans hB2)
                clear hb2 hr2 hB2 hF2 hO2 ho1 ho2 ho3
                have HI2 := Aside0.mk (show p + 1 ≤ A.length ∧ q + 1 ≤ B.length ∧ (markStep sx s.size false).2.length ≤ p + 1 ∧ (markStep sy t.size false).2.length ≤ q + 1 ∧ 0 ≤ (markStep sx s.size false).1 ∧ 0 ≤ (markStep sy t.size false).1 ∧ (markStep sx s.size false).1 + ((flatStr (A.drop (p + 1))).size : Int) ≤ 80 ∧ (markStep sy t.size false).1 + ((flatStr (B.drop (q + 1))).size : Int) ≤ 80 from by
                  have e1 := markStep_length sx s.size false
                  have e2 := markStep_length sy t.size false
                  have e3 : (markStep sx s.size false).1 = sx.1 + s.size := rfl
                  have e4 : (markStep sy t.size false).1 = sy.1 + t.size := rfl
                  omega)
                clear hi HI
                go_wp2
                go_roundw
                case rel => exact ⟨p + 1, q + 1, markStep sx s.size false, markStep sy t.size false, _, _, by go_num, by go_num, HI2, ⟨HM.out.1, by rw [← HST.out]; exact HM.out.2⟩, O2, M2, P2, R2, ⟨fun k h1_ h2_ => D2.out k h2_ h1_⟩, T2⟩
                case measure => simp [intOf]; omega
              | false =>
                have HNE := Aside0.mk (show p < A.length → q < B.length → ¬ rdOf ByteArray.empty A (p : Int) = rdOf ByteArray.empty B (q : Int) from fun z1 z2 z3 => by
                  have := HCB.out
                  exact absurd (Eq.mpr this ⟨z1, z2, z3⟩) (by decide))
                clear HCB
                go_upto_region 20 with (fail)
                go_cut [93] (fun v93 w3 => ∃ db, v93 = .bool db ∧ isDel A B p q = db ∧ w3 = wc.drew)
                case first =>
                  by_cases hq : q < B.length
                  · have hqe : ((q : Int) == (B.length : Int)) = false := by simp; omega
                    by_cases hp : p < A.length
                    · obtain ⟨gi, ci, hci, hli, hbi, hri, _⟩ := tab_fget (f := lcsAt A B) (Kd.S_below HS.out HBT2.out) p (by omega)
                      obtain ⟨gk, ck, hck, hlk, hbk, hrk, _⟩ := tab_fget (f := lcsAt A B) (Kd.S_below HS.out HBT2.out) (p + 1) (by omega)
                      have v1 := (hrk q (by omega)).1
                      have v2 := (hri (q + 1) (by omega)).1
                      have HDEL : Aside0 (isDel A B p q = decide (lcsAt A B p (q + 1) ≤ lcsAt A B (p + 1) q)) := ⟨by unfold isDel; rw [decide_eq_false (show ¬ q = B.length by omega), decide_eq_true hp]; simp⟩
                      clear hri hrk
                      generalize lcsAt A B (p + 1) q = x at *
                      generalize lcsAt A B p (q + 1) = y at *
                      have b0 : (p : Int) < (A.length : Int) + 1 := by omega
                      have b2 : (q : Int) < (B.length : Int) + 1 := by omega
                      have ei0 : (0 : Int) ≤ (p : Int) + 1 := by omega
                      have ei1 : (p : Int) + 1 < (A.length : Int) + 1 := by omega
                      have ei2 : ((p : Int) + 1).toNat = p + 1 := by omega
                      have ej0 : (0 : Int) ≤ (q : Int) + 1 := by omega
                      have ej1 : (q : Int) + 1 < (B.length : Int) + 1 := by omega
                      have ej2 : ((q : Int) + 1).toNat = q + 1 := by omega
                      have ei3 : IntKind.i64.wrap ((p : Int) + 1) = (p : Int) + 1 := (i64_w _).trans (w64 (by omega) (by omega))
                      have ej3 : IntKind.i64.wrap ((q : Int) + 1) = (q : Int) + 1 := (i64_w _).trans (w64 (by omega) (by omega))
                      refine still_drew (by kernel_rfl) (by kernel_rfl) ?_
                      iterate 30 (refine still_yes (by kernel_rfl) (fun K hK => ?_); go_simp; refine hK _ ?_; clear hK K)
                      refine wpStill_nil ?_
                      go_wp2
                      go_meet
                      case rel => exact ⟨_, rfl, by rw [HDEL.out]; first | done | rfl, rfl⟩
                    · have HDEL : Aside0 (isDel A B p q = false) := ⟨by unfold isDel; rw [decide_eq_false (show ¬ q = B.length by omega), decide_eq_false hp]; simp⟩
                      refine still_drew (by kernel_rfl) (by kernel_rfl) ?_
                      iterate 10 (refine still_yes (by kernel_rfl) (fun K hK => ?_); go_simp; refine hK _ ?_; clear hK K)
                      iterate 17 (refine still_no (by kernel_rfl) ?_; simp only [Act.put, List.setIfInBounds_toArray, List.set_cons_zero, List.set_cons_succ])
                      iterate 3 (refine still_yes (by kernel_rfl) (fun K hK => ?_); go_simp; refine hK _ ?_; clear hK K)
                      refine wpStill_nil ?_
                      go_wp2
                      go_meet
                      case rel => exact ⟨_, rfl, by rw [HDEL.out], rfl⟩
                  · have hqe : ((q : Int) == (B.length : Int)) = true := by simp; omega
                    have HDEL : Aside0 (isDel A B p q = true) := ⟨by unfold isDel; rw [decide_eq_true (show q = B.length by omega)]; simp⟩
                    refine still_drew (by kernel_rfl) (by kernel_rfl) ?_
                    iterate 5 (refine still_yes (by kernel_rfl) (fun K hK => ?_); go_simp; refine hK _ ?_; clear hK K)
                    iterate 23 (refine still_no (by kernel_rfl) ?_; simp only [Act.put, List.setIfInBounds_toArray, List.set_cons_zero, List.set_cons_succ])
                    iterate 2 (refine still_yes (by kernel_rfl) (fun K hK => ?_); go_simp; refine hK _ ?_; clear hK K)
                    refine wpStill_nil ?_
                    go_wp2
                    go_meet
                    case rel => exact ⟨_, rfl, by rw [HDEL.out], rfl⟩
                case rest =>
                  obtain ⟨db, rfl, hdb, hw4⟩ := hcut
                  have BKX3 : Bk wc bx 90 #[.int .i64 sx.1, vx] := ⟨by rw [hw4]; exact blk_drew BKX2.out⟩
                  have BKY3 : Bk wc by_ 90 #[.int .i64 sy.1, vy] := ⟨by rw [hw4]; exact blk_drew BKY2.out⟩
                  have HRX3 : Aside0 (k95.R 95 wc wT.heap.size (fun _ => True) vx (sx.2.map mkP)) := ⟨by rw [hw4]; exact Kd.R_drew HRX2.out⟩
                  have HRY3 : Aside0 (k95.R 95 wc wT.heap.size (fun _ => True) vy (sy.2.map mkP)) := ⟨by rw [hw4]; exact Kd.R_drew HRY2.out⟩
                  have HBT3 : Aside0 (Below wT.heap.size wT wc) := ⟨by rw [hw4]; exact HBT2.out.drew⟩
                  clear BKX2 BKY2 HRX2 HRY2 HBT2 hw4
                  cases db with
                  | true =>
                    obtain ⟨hp, hal⟩ := al_del_at hpl hql HNE.out HEND.out hdb
                    have hfx := flat_step hp
                    rw [hal, markRun_11, markRun_21] at HM
                    rw [hfx] at HI
                    obtain ⟨ad0, e0, hx0⟩ := Kd.at_string HRA.out (p : Int) (by omega) (by omega)
                    cases e0
                    rw [Int.toNat_natCast] at hx0
                    replace hx0 := (HBT3.out.cell (World.block_lt_of_cell? wT _ hx0)).trans hx0
                    generalize rdOf ByteArray.empty A (p : Int) = s at *
                    clear hal hfx hdb
                    have hi := HI.out
                    go_wp2_with fail
                    refine (worddiff_pass_w wT.heap.size bx sx.1 vx sx.2 s true wc BKX3.out HRX3.out HXN.out (by omega) (by omega) (by omega)).mono ?_
                    rintro e wP ⟨rfl, vxn, hb2, hr2, hB2, hF2, hO2⟩
                    obtain ⟨ho1, ho2, ho3⟩ := pass_other BKX3.out HRX3.out BKY3.out HRY3.out (HXY.out.symm) HD.out hF2 hO2
                    have M1 := Aside0.mk hb2
                    have R1 := Aside0.mk hr2
                    have O1 := Aside0.mk ho1
                    have P1 := Aside0.mk ho2
                    have D1 := Aside0.mk ho3
                    have T1 := Aside0.mk (HBT3.out.trans hB2)
                    clear hb2 hr2 hB2 hF2 hO2 ho1 ho2 ho3
                    have HI2 := Aside0.mk (show p + 1 ≤ A.length ∧ q ≤ B.length ∧ (markStep sx s.size true).2.length ≤ p + 1 ∧ sy.2.length ≤ q ∧ 0 ≤ (markStep sx s.size true).1 ∧ 0 ≤ sy.1 ∧ (markStep sx s.size true).1 + ((flatStr (A.drop (p + 1))).size : Int) ≤ 80 ∧ sy.1 + ((flatStr (B.drop q)).size : Int) ≤ 80 from by
                      have e1 := markStep_length sx s.size true
                      have e3 : (markStep sx s.size true).1 = sx.1 + s.size := rfl
                      omega)
                    clear hi HI
                    go_wp2
                    go_roundw
                    case rel => exact ⟨p + 1, q, markStep sx s.size true, sy, _, _, by go_num, rfl, HI2, HM, M1, O1, R1, P1, D1, T1⟩
                    case measure => simp [intOf]; omega
                  | false =>
                    obtain ⟨hq, hal⟩ := al_ins_at hpl hql HNE.out HEND.out hdb
                    have hfy := flat_step hq
                    rw [hal, markRun_12, markRun_22] at HM
                    rw [hfy] at HI
                    obtain ⟨ad1, e1, hx1⟩ := Kd.at_string HRB.out (q : Int) (by omega) (by omega)
                    cases e1
                    rw [Int.toNat_natCast] at hx1
                    replace hx1 := (HBT3.out.cell (World.block_lt_of_cell? wT _ hx1)).trans hx1
                    generalize rdOf ByteArray.empty B (q : Int) = t at *
                    clear hal hfy hdb
                    have hi := HI.out
                    go_wp2_with fail
                    refine (worddiff_pass_w wT.heap.size by_ sy.1 vy sy.2 t true wc BKY3.out HRY3.out HYN.out (by omega) (by omega) (by omega)).mono ?_
                    rintro e wP ⟨rfl, vyn, hb2, hr2, hB2, hF2, hO2⟩
                    obtain ⟨ho1, ho2, ho3⟩ := pass_other BKY3.out HRY3.out BKX3.out HRX3.out (HXY.out) (fun k h1_ h2_ => HD.out k h2_ h1_) hF2 hO2
                    have M1 := Aside0.mk hb2
                    have R1 := Aside0.mk hr2
                    have O1 := Aside0.mk ho1
                    have P1 := Aside0.mk ho2
                    have D1 := Aside0.mk ho3
                    have T1 := Aside0.mk (HBT3.out.trans hB2)
                    clear hb2 hr2 hB2 hF2 hO2 ho1 ho2 ho3
                    have HI2 := Aside0.mk (show p ≤ A.length ∧ q + 1 ≤ B.length ∧ sx.2.length ≤ p ∧ (markStep sy t.size true).2.length ≤ q + 1 ∧ 0 ≤ sx.1 ∧ 0 ≤ (markStep sy t.size true).1 ∧ sx.1 + ((flatStr (A.drop p)).size : Int) ≤ 80 ∧ (markStep sy t.size true).1 + ((flatStr (B.drop (q + 1))).size : Int) ≤ 80 from by
                      have e1 := markStep_length sy t.size true
                      have e3 : (markStep sy t.size true).1 = sy.1 + t.size := rfl
                      omega)
                    clear hi HI
                    go_wp2
                    go_roundw
                    case rel => exact ⟨p, q + 1, sx, markStep sy t.size true, _, _, rfl, by go_num, HI2, HM, O1, M1, P1, R1, ⟨fun k h1_ h2_ => D1.out k h2_ h1_⟩, T1⟩
                    case measure => simp [intOf]; omega
end


/-! ### changeforgeref1_At: function 36 -/
def changeforgeref1_At.f (a0 : Int) (a1 : Int) : Option (Int × Int) := some (a0, a1)
set_option maxHeartbeats 8000000 in
set_option maxRecDepth 100000 in
theorem changeforgeref1_At.calls (a0 : Int) (a1 : Int) (r1 : Int) (r2 : Int) (w : World) (h : changeforgeref1_At.f a0 a1 = some (r1, r2)) :
    Calls Try.prog 36 #[.int .i64 a0, .int .i64 a1] w fun e w' => e = .returned (.agg #[.int .i64 r1, .int .i64 r2]) ∧ Below w.heap.size w w' := by
  have hu24 := Try.underlying24
  have HB := Aside0.mk (Below.refl w.heap.size w)
  have H : (some (a0, a1)) = some (r1, r2) := h
  clear h
  simp only [Option.some.injEq, Prod.mk.injEq] at H
  obtain ⟨rfl, rfl⟩ := H
  go_enter Try.func36, Try.ntmps36
  go_wp2_with (first | ((with_reducible refine gate_dst (N := 4) rfl ?_); refine box_event ?hg (N := 4) ?hd (cs := #[.int .i64 0, .int .i64 0]) (t := 24) ?hr ?_; (case hd => rfl); (case hg => rfl); (case hr => first | (go_simp; done) | (go_simp; rfl)); intro gb126 hg w3 hbox hb; have n0_ := Aside0.mk (below_step (by repeat (first | (with_reducible first | exact HB.out | apply below_alloc | apply pw_below_drewN | apply below_drew1) | exact HB.out)) hb); have n1_ := Aside0.mk (hbox); have n2_ := Aside0.mk ((by rw [hg]; exact (below_size (by repeat (first | (with_reducible first | exact HB.out | apply below_alloc | apply pw_below_drewN | apply below_drew1) | exact HB.out))) : w.heap.size ≤ gb126)); have n3_ := Aside0.mk ((by rw [hg]; exact (below_size (by repeat (first | (with_reducible first | exact HB.out | apply below_alloc | apply pw_below_drewN | apply below_drew1) | exact HB.out))) : w.heap.size ≤ gb126)); clear HB; have HB := n0_; have BK126 := n1_; have GW126 := n2_; have GE126 := n3_; clear n0_ n1_ n2_ n3_; clear hb hbox hg; have hcz4_0 : w3.cell? ⟨gb126, 0, none⟩ = some (.int .i64 0) := (blk_cell BK126.out 0).trans rfl; have hcz4_1 : w3.cell? ⟨gb126, 1, none⟩ = some (.int .i64 0) := (blk_cell BK126.out 1).trans rfl; have hfz4_0 := blk_frozen BK126.out 0; have hfz4_1 := blk_frozen BK126.out 1))
  refine bodyPost_ret (results_cell_row rfl _ _ gb126 24 #[.int .i64 a0, .int .i64 a1] (0, 0) _ rfl (by (with_reducible repeat (first | refine blk_drewN ?_ _ | refine blk_drew ?_ | refine blk_alloc ?_ _)); refine blk_put (cs := #[.int .i64 a0, .int .i64 0]) ?_ 1 _ rfl; (with_reducible repeat (first | refine blk_drewN ?_ _ | refine blk_drew ?_ | refine blk_alloc ?_ _)); refine blk_put (cs := #[.int .i64 0, .int .i64 0]) ?_ 0 _ rfl; (with_reducible repeat (first | refine blk_drewN ?_ _ | refine blk_drew ?_ | refine blk_alloc ?_ _)); exact BK126.out) Try.underlying24 rfl (by kernel_rfl)) rfl ?_
  exact ⟨by first | rfl | (simp [errW_none, errW_some] <;> rfl) | (simp [*, errW_none, errW_some] <;> rfl), by repeat (first | (with_reducible first | exact HB.out | apply below_alloc | apply pw_below_drewN | apply below_drew1 | refine below_set ?_ GE126.out) | exact HB.out)⟩

end Go.Proofs.Ytifkadmljokffaa.PX
