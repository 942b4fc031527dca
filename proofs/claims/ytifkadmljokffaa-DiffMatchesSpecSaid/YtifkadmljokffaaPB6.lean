/- Printed by a program of this session out of the translation: Lean functions for Go functions, and proofs that the Go functions answer the same. -/
import Derived.Test.YtifkadmljokffaaPB0
namespace Go.Proofs.Ytifkadmljokffaa.PB
open Go.RowKit Go.Proofs.Ytifkadmljokffaa.Pre Go.Proofs.YtifkadmljokffaaW.PrintWords Go.Proofs.YtifkadmljokffaaW.PrintLast Go.Proofs.YtifkadmljokffaaW.PrintMore
attribute [local go_sem] max2_int min2_int max_two min_two max_three min_three max_four min_four   -- for this text's walks alone
set_option linter.unusedVariables false
set_option linter.unusedSimpArgs false

/-! ### changeforgeref1_PatchOf: function 51 -/
def changeforgeref1_PatchOf.f (l0 : List (S79)) : Option ((List (S70))) :=  if l0.length ≤ 1000 then some ((poGo (l0.map fun x => (x.f0, x.f1)) 0 false []).map (fun h_ => (⟨h_.1, h_.2.1, h_.2.2⟩ : S70))) else none
def mkH (h : Hk) : S70 := ⟨h.1, h.2.1, h.2.2⟩
def kH : Kd S70 := also k70 apartC
theorem PatchOf_info70 : (Try.prog.info? 70).map (fun i => (i.zero, i.size, i.bytes)) = some (some (.agg #[.int .i64 0, .slice none 0 0, .slice none 0 0]), 3, 56) := by kernel_rfl
theorem PatchOf_info9 : (Try.prog.info? 9).map (fun i => (i.zero, i.size, i.bytes)) = some (some (.string ⟨#[]⟩), 1, 16) := by kernel_rfl
theorem mkH_getD (hs : List Hk) (i : Nat) : (hs.map mkH).getD i z70 = mkH (hs.getD i (0, [], [])) := by
  rw [List.getD_eq_getElem?_getD, List.getD_eq_getElem?_getD, List.getElem?_map]
  cases hs[i]? <;> rfl
section
attribute [local irreducible] wpStill
set_option maxHeartbeats 40000000 in
set_option maxRecDepth 100000 in
theorem changeforgeref1_PatchOf.calls (A0 : Option Addr) (c0 : Nat) (l0 : List (S79)) (r : List (S70)) (w : World) (hr0 : Kd.C k79 w A0 l0.length l0) (hc0 : l0.length ≤ c0) (h : changeforgeref1_PatchOf.f l0 = some r) :
    Calls Try.prog 51 #[.slice A0 l0.length c0] w fun e w' => ∃ v0_ : Value, e = .returned (.agg #[v0_]) ∧ Kd.S k70 70 w' w.heap.size (fun _ => True) v0_ r ∧ Below w.heap.size w w' := by
  replace h : (if l0.length ≤ 1000 then some ((poGo (l0.map fun x => (x.f0, x.f1)) 0 false []).map mkH) else none) = some r := h
  obtain ⟨hl, hr⟩ : l0.length ≤ 1000 ∧ (poGo (l0.map fun x => (x.f0, x.f1)) 0 false []).map mkH = r := by
    split at h
    · rename_i hs; exact ⟨hs, Option.some.inj h⟩
    · cases h
  clear h
  have hu36 := Try.underlying36
  have hu70 := Try.underlying70
  have hu79 := Try.underlying79
  have HR0 := Aside0.mk hr0
  have HRr := Aside0.mk hr
  have HB := Aside0.mk (Below.refl w.heap.size w)
  clear hr0 hr
  go_enter Try.func51, Try.ntmps51
  go_wp2_with (first|((with_reducible refine gate_dst (N := 2) rfl ?_);refine bE 2 #[.slice none 0 0] 36 ?_;intro rb hg w1 hbox hb;have BKR := Aside0.mk hbox;have GER := gBe HB hg;replace HB := sBe HB hb;clear hbox)|((with_reducible refine gate_dst (N := 3) rfl ?_);refine bE 3 #[.slice none 0 0] 36 ?_;intro pb hg2 w2 hbox hb2;have BKP := Aside0.mk hbox;have GEP := gBe HB hg2;have HRP := nL BKR hg2;replace BKR := lJ BKR hb2;replace HB := sBe HB hb2;clear hbox hb hb2 hg hg2))
  have HRP' := Aside0.mk (show pb ≠ rb from HRP.out.symm)
  go_loopw [4, 5, 6] (fun v4 v5 v6 wr => ∃ (at_ : Int) (op : Bool) (i : Nat) (hs : List Hk) (v : Value), v4 = .int .i64 at_ ∧ v5 = .bool op ∧ v6 = .int .i64 i ∧ Aside0 (i ≤ l0.length ∧ 0 ≤ at_ ∧ at_ ≤ (i : Int) ∧ hs.length ≤ i ∧ (op = true → 0 < hs.length) ∧ (poLast hs).2.1.length ≤ i ∧ (poLast hs).2.2.length ≤ i) ∧ Aside0 (poGo ((l0.drop i).map fun x => (x.f0, x.f1)) at_ op hs = poGo (l0.map fun x => (x.f0, x.f1)) 0 false []) ∧ Bk wr pb 36 #[v] ∧ Bk wr rb 36 #[.slice none 0 0] ∧ Aside0 (Kd.S kH 70 wr w.heap.size (fun _ => True) v (hs.map mkH)) ∧ Aside0 (Below w.heap.size w wr)) (fun v4 v5 v6 wr => l0.length - (intOf v6).toNat)
  case atStart => exact ⟨0, false, 0, [], .slice none 0 0, rfl, rfl, rfl, ⟨by simp [poLast]⟩, ⟨rfl⟩, BKP, BKR, ⟨Kd.S_nil _ _ _ _ _⟩, HB⟩
  case round =>
    clear BKP BKR HB
    obtain ⟨at_, op, i, hs, v, rfl, rfl, rfl, HI, HM, BKP, BKR, HS, HB⟩ := hrel
    have hi := HI.out
    by_cases hil : i < l0.length
    · have hdr : l0.drop i = rd_T79 l0 (i : Int) :: l0.drop (i + 1) := rdOf_drop z79 l0 i hil
      rw [hdr, List.map_cons] at HM
      obtain ⟨ad, e0, hx0, hx1⟩ := at_T79 HR0.out (i : Int) (by omega) (by omega)
      cases e0
      rw [Int.toNat_natCast] at hx0 hx1
      have HADB := Aside0.mk (World.block_lt_of_cell? w _ hx1)
      have HX0W := Aside0.mk hx0
      have HX1W := Aside0.mk hx1
      replace hx0 := (HB.out.cell (World.block_lt_of_cell? w _ hx0)).trans hx0
      replace hx1 := (HB.out.cell (World.block_lt_of_cell? w _ hx1)).trans hx1
      generalize rd_T79 l0 (i : Int) = x at *
      obtain ⟨kk, s⟩ := x
      simp only [] at hx0 hx1 HM
      clear hdr
      by_cases hk0 : kk = 0
      · subst hk0
        have HM2 : Aside0 (poGo ((l0.drop (i + 1)).map fun x => (x.f0, x.f1)) (at_ + 1) false hs = poGo (l0.map fun x => (x.f0, x.f1)) 0 false []) := ⟨HM.out⟩
        go_wp2
        go_roundw
        case rel => exact ⟨at_ + 1, false, i + 1, hs, v, by go_num, rfl, by go_num, ⟨by omega, by omega, by omega, by omega, (fun h_ => by cases h_), by omega, by omega⟩, HM2, BKP, BKR, HS, HB⟩
        case measure => simp [intOf]; omega
      · have hk0b : (kk == 0) = false := by simp [hk0]
        cases op with
        | true =>
          have hpos : 0 < hs.length := hi.2.2.2.2.1 rfl
          obtain ⟨g, cap, hv, hgb, hgl, _⟩ := Kd.S_form HS.out (by rw [List.length_map]; omega)
          rw [List.length_map] at hv
          subst hv
          obtain ⟨oki, cc, hcl, hM, hcc, hfr, hoki, hH⟩ := Kd.S_elem HS.out z70 ((hs.length : Int) - 1) (by omega) (by omega)
          rw [show ((hs.length : Int) - 1).toNat = hs.length - 1 by omega, mkH_getD] at hM
          rw [show ((hs.length : Int) - 1).toNat = hs.length - 1 by omega, show kH.sz = 3 from rfl] at hcc hfr
          rw [show hs.getD (hs.length - 1) (0, [], []) = poLast hs from rfl] at hM
          have hbd : (poLast hs).2.1.length ≤ i ∧ (poLast hs).2.2.length ≤ i := ⟨hi.2.2.2.2.2.1, hi.2.2.2.2.2.2⟩
          generalize hlh : poLast hs = lh at *
          obtain ⟨la, lo, ln⟩ := lh
          have HLH := Aside0.mk hlh
          clear hlh
          obtain ⟨hM1, hAp⟩ := hM
          obtain ⟨vO, vN, rfl, rO, rN⟩ := k70_openM hM1
          have rO : Kd.string.R 9 _ w.heap.size oki vO lo := rO
          have rN : Kd.string.R 9 _ w.heap.size oki vN ln := rN
          have hbd1 : lo.length ≤ i := hbd.1
          have hbd2 : ln.length ≤ i := hbd.2
          obtain ⟨AO, cO, hvO⟩ := Kd.R_slice rO
          obtain ⟨AN, cN, hvN⟩ := Kd.R_slice rN
          subst hvO
          subst hvN
          have hcO := hcc 1 _ rfl
          have hcN := hcc 2 _ rfl
          have hp0 := blk_cell BKP.out 0
          have HH := Aside0.mk hH
          have RO := Aside0.mk rO
          have RN := Aside0.mk rN
          have HAP := Aside0.mk (hAp _ _ _ rfl)
          have HOK := Aside0.mk hoki
          clear hH rO rN hAp hoki hM1 hcc hfr hcl hbd
          have hn0 : (0 : Int) ≤ (hs.length : Int) - 1 := by omega
          have hn1 : (hs.length : Int) - 1 < hs.length := by omega
          have hn2 : ((hs.length : Int) - 1).toNat = hs.length - 1 := by omega
          have hn3 : (1 : Int) ≤ (hs.length : Int) := by omega
          have hi0 : (0 : Int) ≤ (i : Int) := by omega
          have hi1 : (i : Int) < (l0.length : Int) := by omega
          by_cases hk1 : kk = 1
          · subst hk1
            have hk1b : ((1 : Int) == 1) = true := rfl
            go_wp2_with fail
            refine held_tail_drew (fun W_ => W_.cell? ⟨g, (hs.length - 1) * 3 + 1, none⟩ = some (.slice AO lo.length cO) ∧ W_.cell? ⟨(ad.add (i * 2)).block, (ad.add (i * 2)).off + 1, none⟩ = some (.string s)) 10 (by kernel_rfl) (by kernel_rfl) (fun _ _ _ d_ _ h_ => by cases d_ <;> exact h_) ⟨hcO, hx1⟩ ?_
            intro wf hwf
            have KPf : Bk wf pb 36 #[.slice (some ⟨g, 0, none⟩) hs.length cap] := ⟨by rw [← hwf]; exact blk_drew BKP.out⟩
            have KRf : Bk wf rb 36 #[.slice none 0 0] := ⟨by rw [← hwf]; exact blk_drew BKR.out⟩
            have HHf := Aside0.mk (show Kd.H kH 70 wf w.heap.size (fun _ => True) (.slice (some ⟨g, 0, none⟩) hs.length cap) (hs.map mkH) ((hs.length : Int) - 1) oki [.int .i64 la, .slice AO lo.length cO, .slice AN ln.length cN] from by rw [← hwf]; exact Kd.H_drew HH.out)
            have ROf := Aside0.mk (show Kd.string.R 9 wf w.heap.size oki (.slice AO lo.length cO) lo from by rw [← hwf]; exact Kd.R_drew RO.out)
            have RNf := Aside0.mk (show Kd.string.R 9 wf w.heap.size oki (.slice AN ln.length cN) ln from by rw [← hwf]; exact Kd.R_drew RN.out)
            have HBf := Aside0.mk (show Below w.heap.size w wf from by rw [← hwf]; exact HB.out.drew)
            have X1f := Aside0.mk (show wf.cell? ⟨(ad.add (i * 2)).block, (ad.add (i * 2)).off + 1, none⟩ = some (.string s) from by rw [← hwf]; exact hx1)
            clear hwf
            simp only [List.take_succ_cons, List.take_zero, List.drop_succ_cons, List.drop_zero]
            refine held_yes (.pointer (some ⟨g, (hs.length - 1) * 3, none⟩)) (by kernel_rfl) (fun W_ hW_ => by obtain ⟨y1_, y2_⟩ := hW_; go_simp) ?_
            simp only [Act.put, List.setIfInBounds_toArray, List.set_cons_zero, List.set_cons_succ]
            refine held_yes (.pointer (some ⟨g, (hs.length - 1) * 3, none⟩)) (by kernel_rfl) (fun W_ hW_ => by obtain ⟨y1_, y2_⟩ := hW_; go_simp) ?_
            simp only [Act.put, List.setIfInBounds_toArray, List.set_cons_zero, List.set_cons_succ]
            refine held_yes (.pointer (some ⟨g, (hs.length - 1) * 3, none⟩)) (by kernel_rfl) (fun W_ hW_ => by obtain ⟨y1_, y2_⟩ := hW_; go_simp) ?_
            simp only [Act.put, List.setIfInBounds_toArray, List.set_cons_zero, List.set_cons_succ]
            refine held_yes (.pointer (some ⟨g, (hs.length - 1) * 3 + 1, none⟩)) (by kernel_rfl) (fun W_ hW_ => by obtain ⟨y1_, y2_⟩ := hW_; go_simp) ?_
            simp only [Act.put, List.setIfInBounds_toArray, List.set_cons_zero, List.set_cons_succ]
            refine held_yes (.slice AO lo.length cO) (by kernel_rfl) (fun W_ hW_ => by obtain ⟨y1_, y2_⟩ := hW_; go_simp) ?_
            simp only [Act.put, List.setIfInBounds_toArray, List.set_cons_zero, List.set_cons_succ]
            refine held_yes (.slice (some ad) l0.length c0) (by kernel_rfl) (fun W_ hW_ => by obtain ⟨y1_, y2_⟩ := hW_; go_simp) ?_
            simp only [Act.put, List.setIfInBounds_toArray, List.set_cons_zero, List.set_cons_succ]
            refine held_yes (.int .i64 i) (by kernel_rfl) (fun W_ hW_ => by obtain ⟨y1_, y2_⟩ := hW_; go_simp) ?_
            simp only [Act.put, List.setIfInBounds_toArray, List.set_cons_zero, List.set_cons_succ]
            refine held_yes (.pointer (some (ad.add (i * 2)))) (by kernel_rfl) (fun W_ hW_ => by obtain ⟨y1_, y2_⟩ := hW_; go_simp) ?_
            simp only [Act.put, List.setIfInBounds_toArray, List.set_cons_zero, List.set_cons_succ]
            refine held_yes (.pointer (some ⟨(ad.add (i * 2)).block, (ad.add (i * 2)).off + 1, none⟩)) (by kernel_rfl) (fun W_ hW_ => by obtain ⟨y1_, y2_⟩ := hW_; go_simp) ?_
            simp only [Act.put, List.setIfInBounds_toArray, List.set_cons_zero, List.set_cons_succ]
            refine held_yes (.string s) (by kernel_rfl) (fun W_ hW_ => by obtain ⟨y1_, y2_⟩ := hW_; go_simp) ?_
            simp only [Act.put, List.setIfInBounds_toArray, List.set_cons_zero, List.set_cons_succ]
            refine held_nil ?_
            have hat0 := Kd.H_at HHf.out hn0 hn1
            rw [hn2, show kH.sz = 3 from rfl] at hat0
            have hcw := hat0.1 1 _ rfl
            have HCW := Aside0.mk hcw
            have hgs := World.block_lt_of_cell? wf _ hcw
            have has := World.block_lt_of_cell? wf _ X1f.out
            clear hat0 hcw
            refine listS_step ?_
            go_wp2_with fail
            refine thenS_intro (fun _ => ⟨(World.cell?_of_block (w := wf) (Below.heap_alloc _ _ _ hgs)).trans HCW.out, ((World.cell?_of_block (w := wf) (Below.heap_alloc _ _ _ has) : _ = wf.cell? ⟨(ad.add (i * 2)).block, (ad.add (i * 2)).off + 1, none⟩)).trans X1f.out⟩) ?_
            refine listS_step ?_
            refine Kd.R_append Kd.string (w0 := w) w.heap.size rfl (.tmp 48) (.tmp 54) 22 9 (.string ⟨#[]⟩) 16 rfl Try.underlying22 PatchOf_info9 rfl (by decide) (by omega) _ lo s [.string s] (fun k => (oki k ∧ some k ≠ (Value.slice AN ln.length cN).ownBlock) ∨ wf.heap.size ≤ k) (fun _ => False) rfl rfl rfl (fun _ hk => hk.elim) (fun _ hk => .inr hk) (Kd.R_mono (Kd.R_tight2 rfl ROf.out) (fun k hk => .inl ⟨hk.2, fun e_ => HAP.out k hk.1.symm e_.symm⟩)) HBf.out HBf.out.size (by omega) ?_
            intro v1 w1 hoN hbN hgN hatN
            have HH1 := Aside0.mk (Kd.H_grown (Kd.H_widen HHf.out) hgN (fun k hk => .inl (ROf.out.1 k hk)))
            have hne : some g ≠ (Value.slice AO lo.length cO).ownBlock := fun e_ => (HOK.out g (ROf.out.1 g e_.symm)).2 rfl
            have hcg : w1.cell? ⟨g, (hs.length - 1) * 3 + 1, none⟩ = some (.slice AO lo.length cO) := (World.cell?_of_block (w := wf) (hgN.block g hgs hne)).trans HCW.out
            have hca : w1.cell? ⟨(ad.add (i * 2)).block, (ad.add (i * 2)).off + 1, none⟩ = some (.string s) := ((World.cell?_of_block (w := wf) (hgN.block (ad.add (i * 2)).block has (fun e_ => by have := Kd.R_base ROf.out _ e_.symm; have := HADB.out; omega)) : _ = wf.cell? ⟨(ad.add (i * 2)).block, (ad.add (i * 2)).off + 1, none⟩)).trans X1f.out
            refine thenS_intro (fun _ => ⟨hcg, hca⟩) ?_
            refine listS_step ?_
            go_wp2_with fail
            refine thenS_intro (fun _ => ⟨hcg, hca⟩) ?_
            refine listS_step ?_
            go_wp2_with fail
            refine thenS_intro (fun _ => ⟨hcg, hca⟩) ?_
            refine listS_step ?_
            obtain ⟨A1, c1, hv1⟩ := Kd.R_slice hoN
            rw [show (lo ++ [s]).length = lo.length + 1 by simp] at hv1
            subst hv1
            have hat1 := Kd.H_at HH1.out hn0 hn1
            rw [hn2, show kH.sz = 3 from rfl] at hat1
            have hfz := hat1.2 1
            have hR2 : Kd.string.R 9 w1 w.heap.size (fun k => oki k ∨ True ∧ wf.heap.size ≤ k) (.slice AN ln.length cN) ln := Kd.R_mono (Kd.R_step (Kd.R_tight2 rfl RNf.out) (fun k ho hk => hgN.block k hk (fun e_ => HAP.out k e_.symm ho.1.symm))) (fun k hk => .inl hk.2)
            have hR1 : Kd.string.R 9 w1 w.heap.size (fun k => oki k ∨ True ∧ wf.heap.size ≤ k) (.slice A1 (lo.length + 1) c1) (lo ++ [s]) := Kd.R_mono hoN (fun k hk => hk.elim (fun h_ => .inl h_.1) (fun h_ => .inr ⟨trivial, h_⟩))
            have hdis : ∀ k, (Value.slice A1 (lo.length + 1) c1).ownBlock = some k → (.slice AN ln.length cN : Value).ownBlock = some k → False := fun k e1_ e2_ => (hoN.1 k e1_).elim (fun h_ => h_.2 e2_.symm) (fun h_ => by have := Kd.R_lt RNf.out k e2_; omega)
            have hS2 := (Kd.S_seg0 HH1.out hn0 hn1 (seg := [.slice A1 (lo.length + 1) c1]) (j := 1) (show 1 + 1 ≤ 3 by decide) (x' := mkH (la, lo ++ [s], ln)) (okp := fun k => oki k ∨ True ∧ wf.heap.size ≤ k) ⟨k70_mkM w1 w.heap.size _ (mkH (la, lo ++ [s], ln)) hR1 hR2, by intro x_ v_ u_ e_; injection e_ with e1_ e_; injection e_ with e2_ e_; injection e_ with e3_ _; subst e2_; subst e3_; exact hdis⟩ (fun _ hk => hk)).1
            rw [hn2, ← List.map_set] at hS2
            have HS2 := Aside0.mk hS2
            have hpne : pb ≠ g := fun e_ => by have := Kd.S_types HS.out BKP.out (by decide); exact absurd rfl ((Kd.S_R this).1 pb (by rw [e_]; rfl)).2
            have hrne : rb ≠ g := fun e_ => by have := Kd.S_types HS.out BKR.out (by decide); exact absurd rfl ((Kd.S_R this).1 rb (by rw [e_]; rfl)).2
            have KP1 : Bk (w1.setCell ⟨g, (hs.length - 1) * 3 + 1, none⟩ (.slice A1 (lo.length + 1) c1)) pb 36 #[.slice (some ⟨g, 0, none⟩) hs.length cap] := ⟨(Below.heap_setCell w1 ⟨g, (hs.length - 1) * 3 + 1, none⟩ _ pb hpne).trans ((hgN.block pb (blk_lt KPf.out) (fun e_ => by have := Kd.R_types ROf.out KPf.out (by decide); exact (this.1 pb e_.symm).2 rfl)).trans KPf.out)⟩
            have KR1 : Bk (w1.setCell ⟨g, (hs.length - 1) * 3 + 1, none⟩ (.slice A1 (lo.length + 1) c1)) rb 36 #[.slice none 0 0] := ⟨(Below.heap_setCell w1 ⟨g, (hs.length - 1) * 3 + 1, none⟩ _ rb hrne).trans ((hgN.block rb (blk_lt KRf.out) (fun e_ => by have := Kd.R_types ROf.out KRf.out (by decide); exact (this.1 rb e_.symm).2 rfl)).trans KRf.out)⟩
            have HB1 := Aside0.mk (hbN.setCell (p := ⟨g, (hs.length - 1) * 3 + 1, none⟩) hgb (.slice A1 (lo.length + 1) c1))
            clear hS2 hR1 hR2 hdis hat1 hoN hbN hgN hatN hca
            go_wp2_with fail
            refine thenS_intro (fun h_ => absurd rfl h_) (listS_nil ?_)
            have est : poStep 1 s at_ true hs = hs.set (hs.length - 1) (la, lo ++ [s], ln) := by
              have := HLH.out
              unfold poStep
              simp only [if_true, if_true]
              rw [this]
            have HM2 : Aside0 (poGo ((l0.drop (i + 1)).map fun x => (x.f0, x.f1)) (at_ + 1) true (hs.set (hs.length - 1) (la, lo ++ [s], ln)) = poGo (l0.map fun x => (x.f0, x.f1)) 0 false []) := ⟨by have := HM.out; rw [poGo, if_neg hk0] at this; rw [← est]; exact this⟩
            have epl : poLast (hs.set (hs.length - 1) (la, lo ++ [s], ln)) = (la, lo ++ [s], ln) := by
              unfold poLast
              rw [List.length_set, List.getD_eq_getElem?_getD, List.getElem?_set_self (by omega)]
              rfl
            have HBD := Aside0.mk (show i + 1 ≤ l0.length ∧ 0 ≤ at_ + 1 ∧ at_ + 1 ≤ ((i + 1 : Nat) : Int) ∧ (hs.set (hs.length - 1) (la, lo ++ [s], ln)).length ≤ i + 1 ∧ (true = true → 0 < (hs.set (hs.length - 1) (la, lo ++ [s], ln)).length) ∧ (poLast (hs.set (hs.length - 1) (la, lo ++ [s], ln))).2.1.length ≤ i + 1 ∧ (poLast (hs.set (hs.length - 1) (la, lo ++ [s], ln))).2.2.length ≤ i + 1 from by
              rw [epl, List.length_set]
              simp only [List.length_append, List.length_singleton]
              omega)
            clear est epl
            go_wp2
            go_roundw
            case rel => exact ⟨at_ + 1, true, i + 1, hs.set (hs.length - 1) (la, lo ++ [s], ln), .slice (some ⟨g, 0, none⟩) hs.length cap, by go_num, rfl, by go_num, HBD, HM2, KP1, KR1, HS2, HB1⟩
            case measure => simp [intOf]; omega
          · have hk1b : (kk == 1) = false := by simp [hk1]
            go_wp2_with fail
            refine held_tail_drew (fun W_ => W_.cell? ⟨g, (hs.length - 1) * 3 + 2, none⟩ = some (.slice AN ln.length cN) ∧ W_.cell? ⟨(ad.add (i * 2)).block, (ad.add (i * 2)).off + 1, none⟩ = some (.string s)) 10 (by kernel_rfl) (by kernel_rfl) (fun _ _ _ d_ _ h_ => by cases d_ <;> exact h_) ⟨hcN, hx1⟩ ?_
            intro wf hwf
            have KPf : Bk wf pb 36 #[.slice (some ⟨g, 0, none⟩) hs.length cap] := ⟨by rw [← hwf]; exact blk_drew BKP.out⟩
            have KRf : Bk wf rb 36 #[.slice none 0 0] := ⟨by rw [← hwf]; exact blk_drew BKR.out⟩
            have HHf := Aside0.mk (show Kd.H kH 70 wf w.heap.size (fun _ => True) (.slice (some ⟨g, 0, none⟩) hs.length cap) (hs.map mkH) ((hs.length : Int) - 1) oki [.int .i64 la, .slice AO lo.length cO, .slice AN ln.length cN] from by rw [← hwf]; exact Kd.H_drew HH.out)
            have ROf := Aside0.mk (show Kd.string.R 9 wf w.heap.size oki (.slice AO lo.length cO) lo from by rw [← hwf]; exact Kd.R_drew RO.out)
            have RNf := Aside0.mk (show Kd.string.R 9 wf w.heap.size oki (.slice AN ln.length cN) ln from by rw [← hwf]; exact Kd.R_drew RN.out)
            have HBf := Aside0.mk (show Below w.heap.size w wf from by rw [← hwf]; exact HB.out.drew)
            have X1f := Aside0.mk (show wf.cell? ⟨(ad.add (i * 2)).block, (ad.add (i * 2)).off + 1, none⟩ = some (.string s) from by rw [← hwf]; exact hx1)
            clear hwf
            simp only [List.take_succ_cons, List.take_zero, List.drop_succ_cons, List.drop_zero]
            refine held_yes (.pointer (some ⟨g, (hs.length - 1) * 3, none⟩)) (by kernel_rfl) (fun W_ hW_ => by obtain ⟨y1_, y2_⟩ := hW_; go_simp) ?_
            simp only [Act.put, List.setIfInBounds_toArray, List.set_cons_zero, List.set_cons_succ]
            refine held_yes (.pointer (some ⟨g, (hs.length - 1) * 3, none⟩)) (by kernel_rfl) (fun W_ hW_ => by obtain ⟨y1_, y2_⟩ := hW_; go_simp) ?_
            simp only [Act.put, List.setIfInBounds_toArray, List.set_cons_zero, List.set_cons_succ]
            refine held_yes (.pointer (some ⟨g, (hs.length - 1) * 3, none⟩)) (by kernel_rfl) (fun W_ hW_ => by obtain ⟨y1_, y2_⟩ := hW_; go_simp) ?_
            simp only [Act.put, List.setIfInBounds_toArray, List.set_cons_zero, List.set_cons_succ]
            refine held_yes (.pointer (some ⟨g, (hs.length - 1) * 3 + 2, none⟩)) (by kernel_rfl) (fun W_ hW_ => by obtain ⟨y1_, y2_⟩ := hW_; go_simp) ?_
            simp only [Act.put, List.setIfInBounds_toArray, List.set_cons_zero, List.set_cons_succ]
            refine held_yes (.slice AN ln.length cN) (by kernel_rfl) (fun W_ hW_ => by obtain ⟨y1_, y2_⟩ := hW_; go_simp) ?_
            simp only [Act.put, List.setIfInBounds_toArray, List.set_cons_zero, List.set_cons_succ]
            refine held_yes (.slice (some ad) l0.length c0) (by kernel_rfl) (fun W_ hW_ => by obtain ⟨y1_, y2_⟩ := hW_; go_simp) ?_
            simp only [Act.put, List.setIfInBounds_toArray, List.set_cons_zero, List.set_cons_succ]
            refine held_yes (.int .i64 i) (by kernel_rfl) (fun W_ hW_ => by obtain ⟨y1_, y2_⟩ := hW_; go_simp) ?_
            simp only [Act.put, List.setIfInBounds_toArray, List.set_cons_zero, List.set_cons_succ]
            refine held_yes (.pointer (some (ad.add (i * 2)))) (by kernel_rfl) (fun W_ hW_ => by obtain ⟨y1_, y2_⟩ := hW_; go_simp) ?_
            simp only [Act.put, List.setIfInBounds_toArray, List.set_cons_zero, List.set_cons_succ]
            refine held_yes (.pointer (some ⟨(ad.add (i * 2)).block, (ad.add (i * 2)).off + 1, none⟩)) (by kernel_rfl) (fun W_ hW_ => by obtain ⟨y1_, y2_⟩ := hW_; go_simp) ?_
            simp only [Act.put, List.setIfInBounds_toArray, List.set_cons_zero, List.set_cons_succ]
            refine held_yes (.string s) (by kernel_rfl) (fun W_ hW_ => by obtain ⟨y1_, y2_⟩ := hW_; go_simp) ?_
            simp only [Act.put, List.setIfInBounds_toArray, List.set_cons_zero, List.set_cons_succ]
            refine held_nil ?_
            have hat0 := Kd.H_at HHf.out hn0 hn1
            rw [hn2, show kH.sz = 3 from rfl] at hat0
            have hcw := hat0.1 2 _ rfl
            have HCW := Aside0.mk hcw
            have hgs := World.block_lt_of_cell? wf _ hcw
            have has := World.block_lt_of_cell? wf _ X1f.out
            clear hat0 hcw
            refine listS_step ?_
            go_wp2_with fail
            refine thenS_intro (fun _ => ⟨(World.cell?_of_block (w := wf) (Below.heap_alloc _ _ _ hgs)).trans HCW.out, ((World.cell?_of_block (w := wf) (Below.heap_alloc _ _ _ has) : _ = wf.cell? ⟨(ad.add (i * 2)).block, (ad.add (i * 2)).off + 1, none⟩)).trans X1f.out⟩) ?_
            refine listS_step ?_
            refine Kd.R_append Kd.string (w0 := w) w.heap.size rfl (.tmp 64) (.tmp 70) 22 9 (.string ⟨#[]⟩) 16 rfl Try.underlying22 PatchOf_info9 rfl (by decide) (by omega) _ ln s [.string s] (fun k => (oki k ∧ some k ≠ (Value.slice AO lo.length cO).ownBlock) ∨ wf.heap.size ≤ k) (fun _ => False) rfl rfl rfl (fun _ hk => hk.elim) (fun _ hk => .inr hk) (Kd.R_mono (Kd.R_tight2 rfl RNf.out) (fun k hk => .inl ⟨hk.2, fun e_ => (fun k h1_ h2_ => HAP.out k h2_ h1_) k hk.1.symm e_.symm⟩)) HBf.out HBf.out.size (by omega) ?_
            intro v1 w1 hoN hbN hgN hatN
            have HH1 := Aside0.mk (Kd.H_grown (Kd.H_widen HHf.out) hgN (fun k hk => .inl (RNf.out.1 k hk)))
            have hne : some g ≠ (Value.slice AN ln.length cN).ownBlock := fun e_ => (HOK.out g (RNf.out.1 g e_.symm)).2 rfl
            have hcg : w1.cell? ⟨g, (hs.length - 1) * 3 + 2, none⟩ = some (.slice AN ln.length cN) := (World.cell?_of_block (w := wf) (hgN.block g hgs hne)).trans HCW.out
            have hca : w1.cell? ⟨(ad.add (i * 2)).block, (ad.add (i * 2)).off + 1, none⟩ = some (.string s) := ((World.cell?_of_block (w := wf) (hgN.block (ad.add (i * 2)).block has (fun e_ => by have := Kd.R_base RNf.out _ e_.symm; have := HADB.out; omega)) : _ = wf.cell? ⟨(ad.add (i * 2)).block, (ad.add (i * 2)).off + 1, none⟩)).trans X1f.out
            refine thenS_intro (fun _ => ⟨hcg, hca⟩) ?_
            refine listS_step ?_
            go_wp2_with fail
            refine thenS_intro (fun _ => ⟨hcg, hca⟩) ?_
            refine listS_step ?_
            go_wp2_with fail
            refine thenS_intro (fun _ => ⟨hcg, hca⟩) ?_
            refine listS_step ?_
            obtain ⟨A1, c1, hv1⟩ := Kd.R_slice hoN
            rw [show (ln ++ [s]).length = ln.length + 1 by simp] at hv1
            subst hv1
            have hat1 := Kd.H_at HH1.out hn0 hn1
            rw [hn2, show kH.sz = 3 from rfl] at hat1
            have hfz := hat1.2 2
            have hR2 : Kd.string.R 9 w1 w.heap.size (fun k => oki k ∨ True ∧ wf.heap.size ≤ k) (.slice AO lo.length cO) lo := Kd.R_mono (Kd.R_step (Kd.R_tight2 rfl ROf.out) (fun k ho hk => hgN.block k hk (fun e_ => (fun k h1_ h2_ => HAP.out k h2_ h1_) k e_.symm ho.1.symm))) (fun k hk => .inl hk.2)
            have hR1 : Kd.string.R 9 w1 w.heap.size (fun k => oki k ∨ True ∧ wf.heap.size ≤ k) (.slice A1 (ln.length + 1) c1) (ln ++ [s]) := Kd.R_mono hoN (fun k hk => hk.elim (fun h_ => .inl h_.1) (fun h_ => .inr ⟨trivial, h_⟩))
            have hdis : ∀ k, (Value.slice A1 (ln.length + 1) c1).ownBlock = some k → (.slice AO lo.length cO : Value).ownBlock = some k → False := fun k e1_ e2_ => (hoN.1 k e1_).elim (fun h_ => h_.2 e2_.symm) (fun h_ => by have := Kd.R_lt ROf.out k e2_; omega)
            have hS2 := (Kd.S_seg0 HH1.out hn0 hn1 (seg := [.slice A1 (ln.length + 1) c1]) (j := 2) (show 2 + 1 ≤ 3 by decide) (x' := mkH (la, lo, ln ++ [s])) (okp := fun k => oki k ∨ True ∧ wf.heap.size ≤ k) ⟨k70_mkM w1 w.heap.size _ (mkH (la, lo, ln ++ [s])) hR2 hR1, by intro x_ v_ u_ e_; injection e_ with e1_ e_; injection e_ with e2_ e_; injection e_ with e3_ _; subst e2_; subst e3_; exact fun k h1_ h2_ => hdis k h2_ h1_⟩ (fun _ hk => hk)).1
            rw [hn2, ← List.map_set] at hS2
            have HS2 := Aside0.mk hS2
            have hpne : pb ≠ g := fun e_ => by have := Kd.S_types HS.out BKP.out (by decide); exact absurd rfl ((Kd.S_R this).1 pb (by rw [e_]; rfl)).2
            have hrne : rb ≠ g := fun e_ => by have := Kd.S_types HS.out BKR.out (by decide); exact absurd rfl ((Kd.S_R this).1 rb (by rw [e_]; rfl)).2
            have KP1 : Bk (w1.setCell ⟨g, (hs.length - 1) * 3 + 2, none⟩ (.slice A1 (ln.length + 1) c1)) pb 36 #[.slice (some ⟨g, 0, none⟩) hs.length cap] := ⟨(Below.heap_setCell w1 ⟨g, (hs.length - 1) * 3 + 2, none⟩ _ pb hpne).trans ((hgN.block pb (blk_lt KPf.out) (fun e_ => by have := Kd.R_types RNf.out KPf.out (by decide); exact (this.1 pb e_.symm).2 rfl)).trans KPf.out)⟩
            have KR1 : Bk (w1.setCell ⟨g, (hs.length - 1) * 3 + 2, none⟩ (.slice A1 (ln.length + 1) c1)) rb 36 #[.slice none 0 0] := ⟨(Below.heap_setCell w1 ⟨g, (hs.length - 1) * 3 + 2, none⟩ _ rb hrne).trans ((hgN.block rb (blk_lt KRf.out) (fun e_ => by have := Kd.R_types RNf.out KRf.out (by decide); exact (this.1 rb e_.symm).2 rfl)).trans KRf.out)⟩
            have HB1 := Aside0.mk (hbN.setCell (p := ⟨g, (hs.length - 1) * 3 + 2, none⟩) hgb (.slice A1 (ln.length + 1) c1))
            clear hS2 hR1 hR2 hdis hat1 hoN hbN hgN hatN hca
            go_wp2_with fail
            refine thenS_intro (fun h_ => absurd rfl h_) (listS_nil ?_)
            have est : poStep kk s at_ true hs = hs.set (hs.length - 1) (la, lo, ln ++ [s]) := by
              have := HLH.out
              unfold poStep
              simp only [if_true, if_neg hk1]
              rw [this]
            have HM2 : Aside0 (poGo ((l0.drop (i + 1)).map fun x => (x.f0, x.f1)) at_ true (hs.set (hs.length - 1) (la, lo, ln ++ [s])) = poGo (l0.map fun x => (x.f0, x.f1)) 0 false []) := ⟨by have := HM.out; rw [poGo, if_neg hk0, if_neg hk1] at this; rw [← est]; exact this⟩
            have epl : poLast (hs.set (hs.length - 1) (la, lo, ln ++ [s])) = (la, lo, ln ++ [s]) := by
              unfold poLast
              rw [List.length_set, List.getD_eq_getElem?_getD, List.getElem?_set_self (by omega)]
              rfl
            have HBD := Aside0.mk (show i + 1 ≤ l0.length ∧ 0 ≤ at_ ∧ at_ ≤ ((i + 1 : Nat) : Int) ∧ (hs.set (hs.length - 1) (la, lo, ln ++ [s])).length ≤ i + 1 ∧ (true = true → 0 < (hs.set (hs.length - 1) (la, lo, ln ++ [s])).length) ∧ (poLast (hs.set (hs.length - 1) (la, lo, ln ++ [s]))).2.1.length ≤ i + 1 ∧ (poLast (hs.set (hs.length - 1) (la, lo, ln ++ [s]))).2.2.length ≤ i + 1 from by
              rw [epl, List.length_set]
              simp only [List.length_append, List.length_singleton]
              omega)
            clear est epl
            go_wp2
            go_roundw
            case rel => exact ⟨at_, true, i + 1, hs.set (hs.length - 1) (la, lo, ln ++ [s]), .slice (some ⟨g, 0, none⟩) hs.length cap, rfl, rfl, by go_num, HBD, HM2, KP1, KR1, HS2, HB1⟩
            case measure => simp [intOf]; omega
        | false =>
          obtain ⟨hs1, hhs1⟩ : ∃ z, z = hs ++ [(at_, ([] : List ByteArray), ([] : List ByteArray))] := ⟨_, rfl⟩
          have HH1S := Aside0.mk hhs1
          have hlen1 : hs1.length = hs.length + 1 := by rw [hhs1]; simp
          have HLEN1 := Aside0.mk hlen1
          clear hhs1 hlen1
          obtain ⟨A3, c3, hv3⟩ := Kd.R_slice (Kd.S_R HS.out)
          rw [List.length_map] at hv3
          subst hv3
          have hp0 := blk_cell BKP.out 0
          have hz0 := blk_frozen BKP.out 0
          have hn5 : hs.length ≤ i := hi.2.2.2.1
          go_upto_region 13 with ((with_reducible refine gate_builtin (b := .append) (xs := #[.tmp 25, .tmp 28]) rfl ?_); at_builtin; go_loud (refine Kd.S_append kH (w0 := w) w.heap.size rfl (.tmp 25) (.tmp 28) 34 70 (.agg #[.int .i64 0, .slice none 0 0, .slice none 0 0]) 56 rfl Try.underlying34 PatchOf_info70 rfl (by decide) (by omega) _ (hs.map mkH) (mkH (at_, [], [])) [.int .i64 at_, .slice none 0 0, .slice none 0 0] (fun _ => True) (fun _ => False) rfl rfl ⟨k70_mkM _ _ _ (mkH (at_, [], [])) (Kd.R_nil _ _ _ _ _) (Kd.R_nil _ _ _ _ _), by intro x_ v_ u_ e_; injection e_ with e1_ e_; injection e_ with e2_ e_; subst e2_; intro k_ h_; simp [Value.ownBlock] at h_⟩ (fun _ hk => hk.elim) (fun _ _ => trivial) (Kd.S_mono HS.out (fun _ hk => ⟨hk, fun h_ => h_⟩)) HB.out HB.out.size (by rw [List.length_map]; omega) ?_; intro v5 w5 ho5 hb5 hg5 hat5; rw [show (hs.map mkH) ++ [mkH (at_, [], [])] = hs1.map mkH by rw [HH1S.out, List.map_append]; rfl] at ho5; obtain ⟨g, cap, hv5, hgb, hgl, _⟩ := Kd.S_form ho5 (by rw [List.length_map, HLEN1.out]; omega); rw [List.length_map] at hv5; subst hv5; have HS5 := Aside0.mk ho5; have HB5 := Aside0.mk hb5; have KP5 : Bk w5 pb 36 #[.slice A3 hs.length c3] := ⟨(hg5.block pb (blk_lt BKP.out) (fun e_ => by have := Kd.S_types HS.out BKP.out (by decide); exact absurd rfl ((Kd.S_R this).1 pb e_.symm).2)).trans BKP.out⟩; have KR5 : Bk w5 rb 36 #[.slice none 0 0] := ⟨(hg5.block rb (blk_lt BKR.out) (fun e_ => by have := Kd.S_types HS.out BKR.out (by decide); exact absurd rfl ((Kd.S_R this).1 rb e_.symm).2)).trans BKR.out⟩; have hp5 := blk_cell KP5.out 0; have hz5 := blk_frozen KP5.out 0; clear ho5 hb5 hg5 hat5))
          have BKP6 : Bk (w5.setCell ⟨pb, 0, none⟩ (.slice (some ⟨g, 0, none⟩) hs1.length cap)) pb 36 #[.slice (some ⟨g, 0, none⟩) hs1.length cap] := ⟨blk_put KP5.out 0 _ rfl⟩
          have BKR6 : Bk (w5.setCell ⟨pb, 0, none⟩ (.slice (some ⟨g, 0, none⟩) hs1.length cap)) rb 36 #[.slice none 0 0] := ⟨(Below.heap_setCell w5 ⟨pb, 0, none⟩ _ rb HRP.out).trans KR5.out⟩
          have HS6 := Aside0.mk (Kd.S_mono (Kd.S_far (p := ⟨pb, 0, none⟩) (Kd.S_types HS5.out KP5.out (by decide)) (fun _ hk => hk.2) (.slice (some ⟨g, 0, none⟩) hs1.length cap)) (ok' := fun _ => True) (fun _ _ => trivial))
          have HB6 := Aside0.mk (HB5.out.setCell (p := ⟨pb, 0, none⟩) GEP.out (.slice (some ⟨g, 0, none⟩) hs1.length cap))
          clear HS HB BKP BKR HS5 HB5 KP5 KR5 hx0 hx1 hp0 hz0 hp5 hz5
          generalize w5.setCell ⟨pb, 0, none⟩ (.slice (some ⟨g, 0, none⟩) hs1.length cap) = w6 at *
          have hx0z := (HB6.out.cell (World.block_lt_of_cell? w _ HX0W.out)).trans HX0W.out
          have hx1z := (HB6.out.cell (World.block_lt_of_cell? w _ HX1W.out)).trans HX1W.out
          have hpos : 0 < hs1.length := by have := HLEN1.out; omega
          have hle1 : hs1.length ≤ i + 1 := by have := HLEN1.out; omega
          obtain ⟨oki, cc, hcl, hM, hcc, hfr, hoki, hH⟩ := Kd.S_elem HS6.out z70 ((hs1.length : Int) - 1) (by omega) (by omega)
          rw [show ((hs1.length : Int) - 1).toNat = hs1.length - 1 by omega, mkH_getD] at hM
          rw [show ((hs1.length : Int) - 1).toNat = hs1.length - 1 by omega, show kH.sz = 3 from rfl] at hcc hfr
          rw [show hs1.getD (hs1.length - 1) (0, [], []) = poLast hs1 from rfl] at hM
          have hbd : (poLast hs1).2.1.length ≤ i ∧ (poLast hs1).2.2.length ≤ i := by rw [HH1S.out, poLast_snoc]; simp
          generalize hlh : poLast hs1 = lh at *
          obtain ⟨la, lo, ln⟩ := lh
          have HLH := Aside0.mk hlh
          clear hlh
          obtain ⟨hM1, hAp⟩ := hM
          obtain ⟨vO, vN, rfl, rO, rN⟩ := k70_openM hM1
          have rO : Kd.string.R 9 _ w.heap.size oki vO lo := rO
          have rN : Kd.string.R 9 _ w.heap.size oki vN ln := rN
          have hbd1 : lo.length ≤ i := hbd.1
          have hbd2 : ln.length ≤ i := hbd.2
          obtain ⟨AO, cO, hvO⟩ := Kd.R_slice rO
          obtain ⟨AN, cN, hvN⟩ := Kd.R_slice rN
          subst hvO
          subst hvN
          have hcO := hcc 1 _ rfl
          have hcN := hcc 2 _ rfl
          have hp0 := blk_cell BKP6.out 0
          have HH := Aside0.mk hH
          have RO := Aside0.mk rO
          have RN := Aside0.mk rN
          have HAP := Aside0.mk (hAp _ _ _ rfl)
          have HOK := Aside0.mk hoki
          clear hH rO rN hAp hoki hM1 hcc hfr hcl hbd
          have hn0 : (0 : Int) ≤ (hs1.length : Int) - 1 := by omega
          have hn1 : (hs1.length : Int) - 1 < hs1.length := by omega
          have hn2 : ((hs1.length : Int) - 1).toNat = hs1.length - 1 := by omega
          have hn3 : (1 : Int) ≤ (hs1.length : Int) := by omega
          have hi0 : (0 : Int) ≤ (i : Int) := by omega
          have hi1 : (i : Int) < (l0.length : Int) := by omega
          by_cases hk1 : kk = 1
          · subst hk1
            have hk1b : ((1 : Int) == 1) = true := rfl
            go_wp2_with fail
            refine held_tail_drew (fun W_ => W_.cell? ⟨g, (hs1.length - 1) * 3 + 1, none⟩ = some (.slice AO lo.length cO) ∧ W_.cell? ⟨(ad.add (i * 2)).block, (ad.add (i * 2)).off + 1, none⟩ = some (.string s)) 10 (by kernel_rfl) (by kernel_rfl) (fun _ _ _ d_ _ h_ => by cases d_ <;> exact h_) ⟨hcO, hx1z⟩ ?_
            intro wf hwf
            have KPf : Bk wf pb 36 #[.slice (some ⟨g, 0, none⟩) hs1.length cap] := ⟨by rw [← hwf]; exact blk_drew BKP6.out⟩
            have KRf : Bk wf rb 36 #[.slice none 0 0] := ⟨by rw [← hwf]; exact blk_drew BKR6.out⟩
            have HHf := Aside0.mk (show Kd.H kH 70 wf w.heap.size (fun _ => True) (.slice (some ⟨g, 0, none⟩) hs1.length cap) (hs1.map mkH) ((hs1.length : Int) - 1) oki [.int .i64 la, .slice AO lo.length cO, .slice AN ln.length cN] from by rw [← hwf]; exact Kd.H_drew HH.out)
            have ROf := Aside0.mk (show Kd.string.R 9 wf w.heap.size oki (.slice AO lo.length cO) lo from by rw [← hwf]; exact Kd.R_drew RO.out)
            have RNf := Aside0.mk (show Kd.string.R 9 wf w.heap.size oki (.slice AN ln.length cN) ln from by rw [← hwf]; exact Kd.R_drew RN.out)
            have HBf := Aside0.mk (show Below w.heap.size w wf from by rw [← hwf]; exact HB6.out.drew)
            have X1f := Aside0.mk (show wf.cell? ⟨(ad.add (i * 2)).block, (ad.add (i * 2)).off + 1, none⟩ = some (.string s) from by rw [← hwf]; exact hx1z)
            clear hwf
            simp only [List.take_succ_cons, List.take_zero, List.drop_succ_cons, List.drop_zero]
            refine held_yes (.pointer (some ⟨g, (hs1.length - 1) * 3, none⟩)) (by kernel_rfl) (fun W_ hW_ => by obtain ⟨y1_, y2_⟩ := hW_; go_simp) ?_
            simp only [Act.put, List.setIfInBounds_toArray, List.set_cons_zero, List.set_cons_succ]
            refine held_yes (.pointer (some ⟨g, (hs1.length - 1) * 3, none⟩)) (by kernel_rfl) (fun W_ hW_ => by obtain ⟨y1_, y2_⟩ := hW_; go_simp) ?_
            simp only [Act.put, List.setIfInBounds_toArray, List.set_cons_zero, List.set_cons_succ]
            refine held_yes (.pointer (some ⟨g, (hs1.length - 1) * 3, none⟩)) (by kernel_rfl) (fun W_ hW_ => by obtain ⟨y1_, y2_⟩ := hW_; go_simp) ?_
            simp only [Act.put, List.setIfInBounds_toArray, List.set_cons_zero, List.set_cons_succ]
            refine held_yes (.pointer (some ⟨g, (hs1.length - 1) * 3 + 1, none⟩)) (by kernel_rfl) (fun W_ hW_ => by obtain ⟨y1_, y2_⟩ := hW_; go_simp) ?_
            simp only [Act.put, List.setIfInBounds_toArray, List.set_cons_zero, List.set_cons_succ]
            refine held_yes (.slice AO lo.length cO) (by kernel_rfl) (fun W_ hW_ => by obtain ⟨y1_, y2_⟩ := hW_; go_simp) ?_
            simp only [Act.put, List.setIfInBounds_toArray, List.set_cons_zero, List.set_cons_succ]
            refine held_yes (.slice (some ad) l0.length c0) (by kernel_rfl) (fun W_ hW_ => by obtain ⟨y1_, y2_⟩ := hW_; go_simp) ?_
            simp only [Act.put, List.setIfInBounds_toArray, List.set_cons_zero, List.set_cons_succ]
            refine held_yes (.int .i64 i) (by kernel_rfl) (fun W_ hW_ => by obtain ⟨y1_, y2_⟩ := hW_; go_simp) ?_
            simp only [Act.put, List.setIfInBounds_toArray, List.set_cons_zero, List.set_cons_succ]
            refine held_yes (.pointer (some (ad.add (i * 2)))) (by kernel_rfl) (fun W_ hW_ => by obtain ⟨y1_, y2_⟩ := hW_; go_simp) ?_
            simp only [Act.put, List.setIfInBounds_toArray, List.set_cons_zero, List.set_cons_succ]
            refine held_yes (.pointer (some ⟨(ad.add (i * 2)).block, (ad.add (i * 2)).off + 1, none⟩)) (by kernel_rfl) (fun W_ hW_ => by obtain ⟨y1_, y2_⟩ := hW_; go_simp) ?_
            simp only [Act.put, List.setIfInBounds_toArray, List.set_cons_zero, List.set_cons_succ]
            refine held_yes (.string s) (by kernel_rfl) (fun W_ hW_ => by obtain ⟨y1_, y2_⟩ := hW_; go_simp) ?_
            simp only [Act.put, List.setIfInBounds_toArray, List.set_cons_zero, List.set_cons_succ]
            refine held_nil ?_
            have hat0 := Kd.H_at HHf.out hn0 hn1
            rw [hn2, show kH.sz = 3 from rfl] at hat0
            have hcw := hat0.1 1 _ rfl
            have HCW := Aside0.mk hcw
            have hgs := World.block_lt_of_cell? wf _ hcw
            have has := World.block_lt_of_cell? wf _ X1f.out
            clear hat0 hcw
            refine listS_step ?_
            go_wp2_with fail
            refine thenS_intro (fun _ => ⟨(World.cell?_of_block (w := wf) (Below.heap_alloc _ _ _ hgs)).trans HCW.out, ((World.cell?_of_block (w := wf) (Below.heap_alloc _ _ _ has) : _ = wf.cell? ⟨(ad.add (i * 2)).block, (ad.add (i * 2)).off + 1, none⟩)).trans X1f.out⟩) ?_
            refine listS_step ?_
            refine Kd.R_append Kd.string (w0 := w) w.heap.size rfl (.tmp 48) (.tmp 54) 22 9 (.string ⟨#[]⟩) 16 rfl Try.underlying22 PatchOf_info9 rfl (by decide) (by omega) _ lo s [.string s] (fun k => (oki k ∧ some k ≠ (Value.slice AN ln.length cN).ownBlock) ∨ wf.heap.size ≤ k) (fun _ => False) rfl rfl rfl (fun _ hk => hk.elim) (fun _ hk => .inr hk) (Kd.R_mono (Kd.R_tight2 rfl ROf.out) (fun k hk => .inl ⟨hk.2, fun e_ => HAP.out k hk.1.symm e_.symm⟩)) HBf.out HBf.out.size (by omega) ?_
            intro v1 w1 hoN hbN hgN hatN
            have HH1 := Aside0.mk (Kd.H_grown (Kd.H_widen HHf.out) hgN (fun k hk => .inl (ROf.out.1 k hk)))
            have hne : some g ≠ (Value.slice AO lo.length cO).ownBlock := fun e_ => (HOK.out g (ROf.out.1 g e_.symm)).2 rfl
            have hcg : w1.cell? ⟨g, (hs1.length - 1) * 3 + 1, none⟩ = some (.slice AO lo.length cO) := (World.cell?_of_block (w := wf) (hgN.block g hgs hne)).trans HCW.out
            have hca : w1.cell? ⟨(ad.add (i * 2)).block, (ad.add (i * 2)).off + 1, none⟩ = some (.string s) := ((World.cell?_of_block (w := wf) (hgN.block (ad.add (i * 2)).block has (fun e_ => by have := Kd.R_base ROf.out _ e_.symm; have := HADB.out; omega)) : _ = wf.cell? ⟨(ad.add (i * 2)).block, (ad.add (i * 2)).off + 1, none⟩)).trans X1f.out
            refine thenS_intro (fun _ => ⟨hcg, hca⟩) ?_
            refine listS_step ?_
            go_wp2_with fail
            refine thenS_intro (fun _ => ⟨hcg, hca⟩) ?_
            refine listS_step ?_
            go_wp2_with fail
            refine thenS_intro (fun _ => ⟨hcg, hca⟩) ?_
            refine listS_step ?_
            obtain ⟨A1, c1, hv1⟩ := Kd.R_slice hoN
            rw [show (lo ++ [s]).length = lo.length + 1 by simp] at hv1
            subst hv1
            have hat1 := Kd.H_at HH1.out hn0 hn1
            rw [hn2, show kH.sz = 3 from rfl] at hat1
            have hfz := hat1.2 1
            have hR2 : Kd.string.R 9 w1 w.heap.size (fun k => oki k ∨ True ∧ wf.heap.size ≤ k) (.slice AN ln.length cN) ln := Kd.R_mono (Kd.R_step (Kd.R_tight2 rfl RNf.out) (fun k ho hk => hgN.block k hk (fun e_ => HAP.out k e_.symm ho.1.symm))) (fun k hk => .inl hk.2)
            have hR1 : Kd.string.R 9 w1 w.heap.size (fun k => oki k ∨ True ∧ wf.heap.size ≤ k) (.slice A1 (lo.length + 1) c1) (lo ++ [s]) := Kd.R_mono hoN (fun k hk => hk.elim (fun h_ => .inl h_.1) (fun h_ => .inr ⟨trivial, h_⟩))
            have hdis : ∀ k, (Value.slice A1 (lo.length + 1) c1).ownBlock = some k → (.slice AN ln.length cN : Value).ownBlock = some k → False := fun k e1_ e2_ => (hoN.1 k e1_).elim (fun h_ => h_.2 e2_.symm) (fun h_ => by have := Kd.R_lt RNf.out k e2_; omega)
            have hS2 := (Kd.S_seg0 HH1.out hn0 hn1 (seg := [.slice A1 (lo.length + 1) c1]) (j := 1) (show 1 + 1 ≤ 3 by decide) (x' := mkH (la, lo ++ [s], ln)) (okp := fun k => oki k ∨ True ∧ wf.heap.size ≤ k) ⟨k70_mkM w1 w.heap.size _ (mkH (la, lo ++ [s], ln)) hR1 hR2, by intro x_ v_ u_ e_; injection e_ with e1_ e_; injection e_ with e2_ e_; injection e_ with e3_ _; subst e2_; subst e3_; exact hdis⟩ (fun _ hk => hk)).1
            rw [hn2, ← List.map_set] at hS2
            have HS2 := Aside0.mk hS2
            have hpne : pb ≠ g := fun e_ => by have := Kd.S_types HS6.out BKP6.out (by decide); exact absurd rfl ((Kd.S_R this).1 pb (by rw [e_]; rfl)).2
            have hrne : rb ≠ g := fun e_ => by have := Kd.S_types HS6.out BKR6.out (by decide); exact absurd rfl ((Kd.S_R this).1 rb (by rw [e_]; rfl)).2
            have KP1 : Bk (w1.setCell ⟨g, (hs1.length - 1) * 3 + 1, none⟩ (.slice A1 (lo.length + 1) c1)) pb 36 #[.slice (some ⟨g, 0, none⟩) hs1.length cap] := ⟨(Below.heap_setCell w1 ⟨g, (hs1.length - 1) * 3 + 1, none⟩ _ pb hpne).trans ((hgN.block pb (blk_lt KPf.out) (fun e_ => by have := Kd.R_types ROf.out KPf.out (by decide); exact (this.1 pb e_.symm).2 rfl)).trans KPf.out)⟩
            have KR1 : Bk (w1.setCell ⟨g, (hs1.length - 1) * 3 + 1, none⟩ (.slice A1 (lo.length + 1) c1)) rb 36 #[.slice none 0 0] := ⟨(Below.heap_setCell w1 ⟨g, (hs1.length - 1) * 3 + 1, none⟩ _ rb hrne).trans ((hgN.block rb (blk_lt KRf.out) (fun e_ => by have := Kd.R_types ROf.out KRf.out (by decide); exact (this.1 rb e_.symm).2 rfl)).trans KRf.out)⟩
            have HB1 := Aside0.mk (hbN.setCell (p := ⟨g, (hs1.length - 1) * 3 + 1, none⟩) hgb (.slice A1 (lo.length + 1) c1))
            clear hS2 hR1 hR2 hdis hat1 hoN hbN hgN hatN hca
            go_wp2_with fail
            refine thenS_intro (fun h_ => absurd rfl h_) (listS_nil ?_)
            have est : poStep 1 s at_ false hs = hs1.set (hs1.length - 1) (la, lo ++ [s], ln) := by
              have := HLH.out
              unfold poStep
              simp only [Bool.false_eq_true, if_false, if_true]
              rw [← HH1S.out]
              rw [this]
            have HM2 : Aside0 (poGo ((l0.drop (i + 1)).map fun x => (x.f0, x.f1)) (at_ + 1) true (hs1.set (hs1.length - 1) (la, lo ++ [s], ln)) = poGo (l0.map fun x => (x.f0, x.f1)) 0 false []) := ⟨by have := HM.out; rw [poGo, if_neg hk0] at this; rw [← est]; exact this⟩
            have epl : poLast (hs1.set (hs1.length - 1) (la, lo ++ [s], ln)) = (la, lo ++ [s], ln) := by
              unfold poLast
              rw [List.length_set, List.getD_eq_getElem?_getD, List.getElem?_set_self (by omega)]
              rfl
            have HBD := Aside0.mk (show i + 1 ≤ l0.length ∧ 0 ≤ at_ + 1 ∧ at_ + 1 ≤ ((i + 1 : Nat) : Int) ∧ (hs1.set (hs1.length - 1) (la, lo ++ [s], ln)).length ≤ i + 1 ∧ (true = true → 0 < (hs1.set (hs1.length - 1) (la, lo ++ [s], ln)).length) ∧ (poLast (hs1.set (hs1.length - 1) (la, lo ++ [s], ln))).2.1.length ≤ i + 1 ∧ (poLast (hs1.set (hs1.length - 1) (la, lo ++ [s], ln))).2.2.length ≤ i + 1 from by
              rw [epl, List.length_set]
              simp only [List.length_append, List.length_singleton]
              omega)
            clear est epl
            go_wp2
            go_roundw
            case rel => exact ⟨at_ + 1, true, i + 1, hs1.set (hs1.length - 1) (la, lo ++ [s], ln), .slice (some ⟨g, 0, none⟩) hs1.length cap, by go_num, rfl, by go_num, HBD, HM2, KP1, KR1, HS2, HB1⟩
            case measure => simp [intOf]; omega
          · have hk1b : (kk == 1) = false := by simp [hk1]
            go_wp2_with fail
            refine held_tail_drew (fun W_ => W_.cell? ⟨g, (hs1.length - 1) * 3 + 2, none⟩ = some (.slice AN ln.length cN) ∧ W_.cell? ⟨(ad.add (i * 2)).block, (ad.add (i * 2)).off + 1, none⟩ = some (.string s)) 10 (by kernel_rfl) (by kernel_rfl) (fun _ _ _ d_ _ h_ => by cases d_ <;> exact h_) ⟨hcN, hx1z⟩ ?_
            intro wf hwf
            have KPf : Bk wf pb 36 #[.slice (some ⟨g, 0, none⟩) hs1.length cap] := ⟨by rw [← hwf]; exact blk_drew BKP6.out⟩
            have KRf : Bk wf rb 36 #[.slice none 0 0] := ⟨by rw [← hwf]; exact blk_drew BKR6.out⟩
            have HHf := Aside0.mk (show Kd.H kH 70 wf w.heap.size (fun _ => True) (.slice (some ⟨g, 0, none⟩) hs1.length cap) (hs1.map mkH) ((hs1.length : Int) - 1) oki [.int .i64 la, .slice AO lo.length cO, .slice AN ln.length cN] from by rw [← hwf]; exact Kd.H_drew HH.out)
            have ROf := Aside0.mk (show Kd.string.R 9 wf w.heap.size oki (.slice AO lo.length cO) lo from by rw [← hwf]; exact Kd.R_drew RO.out)
            have RNf := Aside0.mk (show Kd.string.R 9 wf w.heap.size oki (.slice AN ln.length cN) ln from by rw [← hwf]; exact Kd.R_drew RN.out)
            have HBf := Aside0.mk (show Below w.heap.size w wf from by rw [← hwf]; exact HB6.out.drew)
            have X1f := Aside0.mk (show wf.cell? ⟨(ad.add (i * 2)).block, (ad.add (i * 2)).off + 1, none⟩ = some (.string s) from by rw [← hwf]; exact hx1z)
            clear hwf
            simp only [List.take_succ_cons, List.take_zero, List.drop_succ_cons, List.drop_zero]
            refine held_yes (.pointer (some ⟨g, (hs1.length - 1) * 3, none⟩)) (by kernel_rfl) (fun W_ hW_ => by obtain ⟨y1_, y2_⟩ := hW_; go_simp) ?_
            simp only [Act.put, List.setIfInBounds_toArray, List.set_cons_zero, List.set_cons_succ]
            refine held_yes (.pointer (some ⟨g, (hs1.length - 1) * 3, none⟩)) (by kernel_rfl) (fun W_ hW_ => by obtain ⟨y1_, y2_⟩ := hW_; go_simp) ?_
            simp only [Act.put, List.setIfInBounds_toArray, List.set_cons_zero, List.set_cons_succ]
            refine held_yes (.pointer (some ⟨g, (hs1.length - 1) * 3, none⟩)) (by kernel_rfl) (fun W_ hW_ => by obtain ⟨y1_, y2_⟩ := hW_; go_simp) ?_
            simp only [Act.put, List.setIfInBounds_toArray, List.set_cons_zero, List.set_cons_succ]
            refine held_yes (.pointer (some ⟨g, (hs1.length - 1) * 3 + 2, none⟩)) (by kernel_rfl) (fun W_ hW_ => by obtain ⟨y1_, y2_⟩ := hW_; go_simp) ?_
            simp only [Act.put, List.setIfInBounds_toArray, List.set_cons_zero, List.set_cons_succ]
            refine held_yes (.slice AN ln.length cN) (by kernel_rfl) (fun W_ hW_ => by obtain ⟨y1_, y2_⟩ := hW_; go_simp) ?_
            simp only [Act.put, List.setIfInBounds_toArray, List.set_cons_zero, List.set_cons_succ]
            refine held_yes (.slice (some ad) l0.length c0) (by kernel_rfl) (fun W_ hW_ => by obtain ⟨y1_, y2_⟩ := hW_; go_simp) ?_
            simp only [Act.put, List.setIfInBounds_toArray, List.set_cons_zero, List.set_cons_succ]
            refine held_yes (.int .i64 i) (by kernel_rfl) (fun W_ hW_ => by obtain ⟨y1_, y2_⟩ := hW_; go_simp) ?_
            simp only [Act.put, List.setIfInBounds_toArray, List.set_cons_zero, List.set_cons_succ]
            refine held_yes (.pointer (some (ad.add (i * 2)))) (by kernel_rfl) (fun W_ hW_ => by obtain ⟨y1_, y2_⟩ := hW_; go_simp) ?_
            simp only [Act.put, List.setIfInBounds_toArray, List.set_cons_zero, List.set_cons_succ]
            refine held_yes (.pointer (some ⟨(ad.add (i * 2)).block, (ad.add (i * 2)).off + 1, none⟩)) (by kernel_rfl) (fun W_ hW_ => by obtain ⟨y1_, y2_⟩ := hW_; go_simp) ?_
            simp only [Act.put, List.setIfInBounds_toArray, List.set_cons_zero, List.set_cons_succ]
            refine held_yes (.string s) (by kernel_rfl) (fun W_ hW_ => by obtain ⟨y1_, y2_⟩ := hW_; go_simp) ?_
            simp only [Act.put, List.setIfInBounds_toArray, List.set_cons_zero, List.set_cons_succ]
            refine held_nil ?_
            have hat0 := Kd.H_at HHf.out hn0 hn1
            rw [hn2, show kH.sz = 3 from rfl] at hat0
            have hcw := hat0.1 2 _ rfl
            have HCW := Aside0.mk hcw
            have hgs := World.block_lt_of_cell? wf _ hcw
            have has := World.block_lt_of_cell? wf _ X1f.out
            clear hat0 hcw
            refine listS_step ?_
            go_wp2_with fail
            refine thenS_intro (fun _ => ⟨(World.cell?_of_block (w := wf) (Below.heap_alloc _ _ _ hgs)).trans HCW.out, ((World.cell?_of_block (w := wf) (Below.heap_alloc _ _ _ has) : _ = wf.cell? ⟨(ad.add (i * 2)).block, (ad.add (i * 2)).off + 1, none⟩)).trans X1f.out⟩) ?_
            refine listS_step ?_
            refine Kd.R_append Kd.string (w0 := w) w.heap.size rfl (.tmp 64) (.tmp 70) 22 9 (.string ⟨#[]⟩) 16 rfl Try.underlying22 PatchOf_info9 rfl (by decide) (by omega) _ ln s [.string s] (fun k => (oki k ∧ some k ≠ (Value.slice AO lo.length cO).ownBlock) ∨ wf.heap.size ≤ k) (fun _ => False) rfl rfl rfl (fun _ hk => hk.elim) (fun _ hk => .inr hk) (Kd.R_mono (Kd.R_tight2 rfl RNf.out) (fun k hk => .inl ⟨hk.2, fun e_ => (fun k h1_ h2_ => HAP.out k h2_ h1_) k hk.1.symm e_.symm⟩)) HBf.out HBf.out.size (by omega) ?_
            intro v1 w1 hoN hbN hgN hatN
            have HH1 := Aside0.mk (Kd.H_grown (Kd.H_widen HHf.out) hgN (fun k hk => .inl (RNf.out.1 k hk)))
            have hne : some g ≠ (Value.slice AN ln.length cN).ownBlock := fun e_ => (HOK.out g (RNf.out.1 g e_.symm)).2 rfl
            have hcg : w1.cell? ⟨g, (hs1.length - 1) * 3 + 2, none⟩ = some (.slice AN ln.length cN) := (World.cell?_of_block (w := wf) (hgN.block g hgs hne)).trans HCW.out
            have hca : w1.cell? ⟨(ad.add (i * 2)).block, (ad.add (i * 2)).off + 1, none⟩ = some (.string s) := ((World.cell?_of_block (w := wf) (hgN.block (ad.add (i * 2)).block has (fun e_ => by have := Kd.R_base RNf.out _ e_.symm; have := HADB.out; omega)) : _ = wf.cell? ⟨(ad.add (i * 2)).block, (ad.add (i * 2)).off + 1, none⟩)).trans X1f.out
            refine thenS_intro (fun _ => ⟨hcg, hca⟩) ?_
            refine listS_step ?_
            go_wp2_with fail
            refine thenS_intro (fun _ => ⟨hcg, hca⟩) ?_
            refine listS_step ?_
            go_wp2_with fail
            refine thenS_intro (fun _ => ⟨hcg, hca⟩) ?_
            refine listS_step ?_
            obtain ⟨A1, c1, hv1⟩ := Kd.R_slice hoN
            rw [show (ln ++ [s]).length = ln.length + 1 by simp] at hv1
            subst hv1
            have hat1 := Kd.H_at HH1.out hn0 hn1
            rw [hn2, show kH.sz = 3 from rfl] at hat1
            have hfz := hat1.2 2
            have hR2 : Kd.string.R 9 w1 w.heap.size (fun k => oki k ∨ True ∧ wf.heap.size ≤ k) (.slice AO lo.length cO) lo := Kd.R_mono (Kd.R_step (Kd.R_tight2 rfl ROf.out) (fun k ho hk => hgN.block k hk (fun e_ => (fun k h1_ h2_ => HAP.out k h2_ h1_) k e_.symm ho.1.symm))) (fun k hk => .inl hk.2)
            have hR1 : Kd.string.R 9 w1 w.heap.size (fun k => oki k ∨ True ∧ wf.heap.size ≤ k) (.slice A1 (ln.length + 1) c1) (ln ++ [s]) := Kd.R_mono hoN (fun k hk => hk.elim (fun h_ => .inl h_.1) (fun h_ => .inr ⟨trivial, h_⟩))
            have hdis : ∀ k, (Value.slice A1 (ln.length + 1) c1).ownBlock = some k → (.slice AO lo.length cO : Value).ownBlock = some k → False := fun k e1_ e2_ => (hoN.1 k e1_).elim (fun h_ => h_.2 e2_.symm) (fun h_ => by have := Kd.R_lt ROf.out k e2_; omega)
            have hS2 := (Kd.S_seg0 HH1.out hn0 hn1 (seg := [.slice A1 (ln.length + 1) c1]) (j := 2) (show 2 + 1 ≤ 3 by decide) (x' := mkH (la, lo, ln ++ [s])) (okp := fun k => oki k ∨ True ∧ wf.heap.size ≤ k) ⟨k70_mkM w1 w.heap.size _ (mkH (la, lo, ln ++ [s])) hR2 hR1, by intro x_ v_ u_ e_; injection e_ with e1_ e_; injection e_ with e2_ e_; injection e_ with e3_ _; subst e2_; subst e3_; exact fun k h1_ h2_ => hdis k h2_ h1_⟩ (fun _ hk => hk)).1
            rw [hn2, ← List.map_set] at hS2
            have HS2 := Aside0.mk hS2
            have hpne : pb ≠ g := fun e_ => by have := Kd.S_types HS6.out BKP6.out (by decide); exact absurd rfl ((Kd.S_R this).1 pb (by rw [e_]; rfl)).2
            have hrne : rb ≠ g := fun e_ => by have := Kd.S_types HS6.out BKR6.out (by decide); exact absurd rfl ((Kd.S_R this).1 rb (by rw [e_]; rfl)).2
            have KP1 : Bk (w1.setCell ⟨g, (hs1.length - 1) * 3 + 2, none⟩ (.slice A1 (ln.length + 1) c1)) pb 36 #[.slice (some ⟨g, 0, none⟩) hs1.length cap] := ⟨(Below.heap_setCell w1 ⟨g, (hs1.length - 1) * 3 + 2, none⟩ _ pb hpne).trans ((hgN.block pb (blk_lt KPf.out) (fun e_ => by have := Kd.R_types RNf.out KPf.out (by decide); exact (this.1 pb e_.symm).2 rfl)).trans KPf.out)⟩
            have KR1 : Bk (w1.setCell ⟨g, (hs1.length - 1) * 3 + 2, none⟩ (.slice A1 (ln.length + 1) c1)) rb 36 #[.slice none 0 0] := ⟨(Below.heap_setCell w1 ⟨g, (hs1.length - 1) * 3 + 2, none⟩ _ rb hrne).trans ((hgN.block rb (blk_lt KRf.out) (fun e_ => by have := Kd.R_types RNf.out KRf.out (by decide); exact (this.1 rb e_.symm).2 rfl)).trans KRf.out)⟩
            have HB1 := Aside0.mk (hbN.setCell (p := ⟨g, (hs1.length - 1) * 3 + 2, none⟩) hgb (.slice A1 (ln.length + 1) c1))
            clear hS2 hR1 hR2 hdis hat1 hoN hbN hgN hatN hca
            go_wp2_with fail
            refine thenS_intro (fun h_ => absurd rfl h_) (listS_nil ?_)
            have est : poStep kk s at_ false hs = hs1.set (hs1.length - 1) (la, lo, ln ++ [s]) := by
              have := HLH.out
              unfold poStep
              simp only [Bool.false_eq_true, if_false, if_neg hk1]
              rw [← HH1S.out]
              rw [this]
            have HM2 : Aside0 (poGo ((l0.drop (i + 1)).map fun x => (x.f0, x.f1)) at_ true (hs1.set (hs1.length - 1) (la, lo, ln ++ [s])) = poGo (l0.map fun x => (x.f0, x.f1)) 0 false []) := ⟨by have := HM.out; rw [poGo, if_neg hk0, if_neg hk1] at this; rw [← est]; exact this⟩
            have epl : poLast (hs1.set (hs1.length - 1) (la, lo, ln ++ [s])) = (la, lo, ln ++ [s]) := by
              unfold poLast
              rw [List.length_set, List.getD_eq_getElem?_getD, List.getElem?_set_self (by omega)]
              rfl
            have HBD := Aside0.mk (show i + 1 ≤ l0.length ∧ 0 ≤ at_ ∧ at_ ≤ ((i + 1 : Nat) : Int) ∧ (hs1.set (hs1.length - 1) (la, lo, ln ++ [s])).length ≤ i + 1 ∧ (true = true → 0 < (hs1.set (hs1.length - 1) (la, lo, ln ++ [s])).length) ∧ (poLast (hs1.set (hs1.length - 1) (la, lo, ln ++ [s]))).2.1.length ≤ i + 1 ∧ (poLast (hs1.set (hs1.length - 1) (la, lo, ln ++ [s]))).2.2.length ≤ i + 1 from by
              rw [epl, List.length_set]
              simp only [List.length_append, List.length_singleton]
              omega)
            clear est epl
            go_wp2
            go_roundw
            case rel => exact ⟨at_, true, i + 1, hs1.set (hs1.length - 1) (la, lo, ln ++ [s]), .slice (some ⟨g, 0, none⟩) hs1.length cap, rfl, rfl, by go_num, HBD, HM2, KP1, KR1, HS2, HB1⟩
            case measure => simp [intOf]; omega
    · have hie : i = l0.length := by omega
      obtain ⟨Av, cv, hvv⟩ := Kd.R_slice (Kd.S_R HS.out)
      rw [List.length_map] at hvv
      subst hvv
      have hfin : hs.map mkH = r := by
        have h1 := HM.out
        rw [List.drop_of_length_le (by omega), List.map_nil, poGo] at h1
        rw [h1]
        exact HRr.out
      have HFIN := Aside0.mk hfin
      clear hfin
      have hp0 := blk_cell BKP.out 0
      have hr0 := blk_cell BKR.out 0
      have hrz := blk_frozen BKR.out 0
      go_wp2
      refine bodyPost_ret (results_cell_row rfl _ _ rb 36 #[.slice Av hs.length cv] (0, 0) _ rfl (blk_put (cs := #[.slice none 0 0]) BKR.out 0 _ rfl) Try.underlying36 rfl (by kernel_rfl)) rfl ?_
      refine ⟨_, rfl, ?_, HB.out.setCell (p := ⟨rb, 0, none⟩) GER.out _⟩
      rw [← HFIN.out]
      exact also_S (Kd.S_mono (Kd.S_far (p := ⟨rb, 0, none⟩) (Kd.S_types HS.out BKR.out (by decide)) (fun _ hk => hk.2) _) (fun _ _ => trivial))
end


end Go.Proofs.Ytifkadmljokffaa.PB
