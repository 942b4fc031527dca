/- Printed by a program of this session out of the translation: Lean functions for Go functions, and proofs that the Go functions answer the same. -/
import Derived.Test.YtdnnkhogpobjbaaPI0
import Derived.Test.YtdnnkhogpobjbaaPI4
import Derived.Test.YtdnnkhogpobjbaaPI5
import Derived.Test.YtdnnkhogpobjbaaPI7
namespace Go.Proofs.Ytdnnkhogpobjbaa.PI
open Go.RowKit Go.Proofs.Ytdnnkhogpobjbaa.Pre Go.Proofs.YtdnnkhogpobjbaaW.PrintWords Go.Proofs.YtdnnkhogpobjbaaW.PrintLast Go.Proofs.YtdnnkhogpobjbaaW.PrintMore
attribute [local go_sem] max2_int min2_int max_two min_two max_three min_three max_four min_four   -- for this text's walks alone
set_option linter.unusedVariables false
set_option linter.unusedSimpArgs false

/-! ### changeforgelaw1_hunk: function 44 -/
def changeforgelaw1_hunk.f (a0 : Int) (l1 : List ByteArray) (l2 : List ByteArray) : Option ((List (S47))) := some (([(⟨a0, l1, l2⟩ : S47)] : List (S47)))
set_option maxHeartbeats 8000000 in
set_option maxRecDepth 100000 in
theorem changeforgelaw1_hunk.calls (a0 : Int) (P1_ : Nat → Prop) (A1 : Option Addr) (c1 : Nat) (l1 : List ByteArray) (P2_ : Nat → Prop) (A2 : Option Addr) (c2 : Nat) (l2 : List ByteArray) (r : List (S47)) (w : World) (hs1 : Kd.V Kd.string 9 w w.heap.size (fun k_ => P1_ k_) (.slice A1 l1.length c1) l1) (hs2 : Kd.V Kd.string 9 w w.heap.size (fun k_ => P2_ k_) (.slice A2 l2.length c2) l2) (h : changeforgelaw1_hunk.f a0 l1 l2 = some r) :
    Calls Try.prog 44 #[.int .i64 a0, .slice A1 l1.length c1, .slice A2 l2.length c2] w fun e w' => ∃ v0_ : Value, e = .returned (.agg #[v0_]) ∧ Kd.N k47 47 w' w.heap.size (fun k_ => ((P1_ k_ ∨ P2_ k_) ∨ w.heap.size ≤ k_)) v0_ r ∧ Below w.heap.size w w' := by
  have hu24 := Try.underlying24
  have hu47 := Try.underlying47
  have HO1 := Aside0.mk (show Kd.V Kd.string 9 w w.heap.size (fun k_ => ((P1_ k_ ∨ P2_ k_) ∨ w.heap.size ≤ k_)) (.slice A1 l1.length c1) l1 from Kd.V_mono hs1 (fun k_ hk => .inl (.inl hk)))
  have HO2 := Aside0.mk (show Kd.V Kd.string 9 w w.heap.size (fun k_ => ((P1_ k_ ∨ P2_ k_) ∨ w.heap.size ≤ k_)) (.slice A2 l2.length c2) l2 from Kd.V_mono hs2 (fun k_ hk => .inl (.inr hk)))
  have HB := Aside0.mk (Below.refl w.heap.size w)
  have H : (some (([(⟨a0, l1, l2⟩ : S47)] : List (S47)))) = some r := h
  clear h
  obtain ⟨y186, hy186⟩ : ∃ y_ : List (S47), y_ = (([(⟨a0, l1, l2⟩ : S47)] : List (S47))) := ⟨_, rfl⟩
  replace H : (some y186) = some r := by first|(rw [hy186];with_reducible exact H)|(have H2_ := (Option.bind_some _ _).symm.trans H;rw [hy186];with_reducible exact H2_)|(have H2_ := (Option.bind_some _ _).symm.trans H;with_reducible exact H2_)|with_reducible exact H|(rw [hy186];exact H)|exact H
  have Ny186 := Aside0.mk hy186
  clear hy186
  obtain rfl := Option.some.inj H
  go_enter Try.func44, Try.ntmps44
  go_wp2_with (first|((with_reducible refine gate_dst (N := 6) rfl ?_);refine box_event ?hg (N := 6) ?hd (cs := #[.slice none 0 0]) (t := 24) ?hr ?_;(case hd => rfl);(case hg => rfl);(case hr => first|(go_simp;done)|(go_simp;rfl));intro gb185 hg w4 hbox hb;have n0_ := Aside0.mk (Kd.V_below (Kd.V_elderB (by (with_reducible repeat (first|apply Kd.V_alloc|apply Kd.V_drewN|apply Kd.V_drew));exact HO1.out) gb185 (Nat.le_of_eq hg.symm)) hb);have n1_ := Aside0.mk (Kd.V_below (Kd.V_elderB (by (with_reducible repeat (first|apply Kd.V_alloc|apply Kd.V_drewN|apply Kd.V_drew));exact HO2.out) gb185 (Nat.le_of_eq hg.symm)) hb);have n2_ := Aside0.mk (below_step (by repeat (first|(with_reducible first|exact HB.out|apply eA|apply eN|apply eD)|exact HB.out)) hb);have n3_ := Aside0.mk (hbox);have n4_ := Aside0.mk ((by rw [hg];exact (below_size (by repeat (first|(with_reducible first|exact HB.out|apply eA|apply eN|apply eD)|exact HB.out))) : w.heap.size ≤ gb185));have n5_ := Aside0.mk ((by rw [hg];exact (below_size (by repeat (first|(with_reducible first|exact HB.out|apply eA|apply eN|apply eD)|exact HB.out))) : w.heap.size ≤ gb185));clear HO1;clear HO2;clear HB;have HO1 := n0_;have HO2 := n1_;have HB := n2_;have BK185 := n3_;have GW185 := n4_;have GE185 := n5_;clear n0_ n1_ n2_ n3_ n4_ n5_;clear hb hbox hg)|((with_reducible refine gate_dst (N := 11) rfl ?_);refine Kd.N_lit k47 _ 47 ?hg (N' := 11) ?hd (xs := ([(⟨a0, l1, l2⟩ : S47)] : List (S47))) (inner := [.int .i64 a0, .slice A1 l1.length c1, .slice A2 l2.length c2]) (ok := (fun k_ => ((P1_ k_ ∨ P2_ k_) ∨ w.heap.size ≤ k_) ∧ k_ ≠ gb185)) (okp := (fun k_ => ((P1_ k_ ∨ P2_ k_) ∨ w.heap.size ≤ k_) ∧ k_ ≠ gb185)) ?hr ?hp (fun _ hk => hk) ((show ∀ k_, w4.heap.size ≤ k_ → (fun k_ => ((P1_ k_ ∨ P2_ k_) ∨ w.heap.size ≤ k_) ∧ k_ ≠ gb185) k_ from fun k_ hk => ⟨(.inr (Nat.le_trans (below_size (by repeat (first|(with_reducible first|exact HB.out|apply eA|apply eN|apply eD|refine below_set ?_ GE185.out)|exact HB.out))) hk)), Kd.freshB (g := gb185) (o := .cells #[.slice none 0 0] 24 (0, 0)) (by (with_reducible repeat first|apply bN|apply bD|apply bA);exact BK185.out) k_ hk⟩) _ (Nat.le_refl _)) (Below.refl _ _) (Nat.le_refl _) (by simp) ?_;(case hd => rfl);(case hg => rfl);(case hr => first|(go_simp;done)|(go_simp;rfl));(case hp => exact (Reps.c3 (show Kd.FK k47 _ _ (⟨a0, l1, l2⟩ : S47) [.int .i64 a0, .slice A1 l1.length c1, .slice A2 l2.length c2] from (k47_mkF _ _ (⟨a0, l1, l2⟩ : S47) (Kd.V_reads' (Kd.V_mono (ok' := (fun k_ => ((P1_ k_ ∨ P2_ k_) ∨ w.heap.size ≤ k_) ∧ k_ ≠ gb185)) (HO1.out) (fun k_ hk => ⟨hk.1, hk.2⟩))).2.1 (Kd.V_F (Kd.V_mono (ok' := (fun k_ => ((P1_ k_ ∨ P2_ k_) ∨ w.heap.size ≤ k_) ∧ k_ ≠ gb185)) (HO1.out) (fun k_ hk => ⟨hk.1, hk.2⟩))) (Kd.V_reads' (Kd.V_mono (ok' := (fun k_ => ((P1_ k_ ∨ P2_ k_) ∨ w.heap.size ≤ k_) ∧ k_ ≠ gb185)) (HO2.out) (fun k_ hk => ⟨hk.1, hk.2⟩))).2.1 (Kd.V_F (Kd.V_mono (ok' := (fun k_ => ((P1_ k_ ∨ P2_ k_) ∨ w.heap.size ≤ k_) ∧ k_ ≠ gb185)) (HO2.out) (fun k_ hk => ⟨hk.1, hk.2⟩))))) (Reps.none _ _)));intro v187 w5 ho6 hb hg_ hnew_;clear hg_ hnew_;(first|rw [← Ny186.out] at ho6|(simp only [Int.reduceToNat] at ho6;rw [← Ny186.out] at ho6));have n0_ := Aside0.mk (Kd.V_elder' (by (with_reducible repeat (first|apply Kd.V_alloc|apply Kd.V_drewN|apply Kd.V_drew));exact HO1.out) (Kd.N_base ho6) hb);have n1_ := Aside0.mk (Kd.V_elder' (by (with_reducible repeat (first|apply Kd.V_alloc|apply Kd.V_drewN|apply Kd.V_drew));exact HO2.out) (Kd.N_base ho6) hb);have n2_ := Aside0.mk (Kd.N_lower ho6 (below_size (by repeat (first|(with_reducible first|exact HB.out|apply eA|apply eN|apply eD|refine below_set ?_ GE185.out)|exact HB.out))));have n3_ := Aside0.mk (blk_below (g := gb185) (o := .cells #[.slice none 0 0] 24 (0, 0)) (by (with_reducible repeat first|apply bN|apply bD|apply bA);exact BK185.out) hb);have n4_ := Aside0.mk (below_step (by repeat (first|(with_reducible first|exact HB.out|apply eA|apply eN|apply eD|refine below_set ?_ GE185.out)|exact HB.out)) hb);clear HO1;clear HO2;clear BK185;clear HB;have HO1 := n0_;have HO2 := n1_;have HO188 := n2_;have BK185 := n3_;have HB := n4_;clear n0_ n1_ n2_ n3_ n4_;clear hb ho6;obtain ⟨Ao7, co7, eo7⟩ := Kd.N_slice HO188.out;subst eo7;have hcz8_0 : w5.cell? ⟨gb185, 0, none⟩ = some (.slice none 0 0) := (blk_cell BK185.out 0).trans rfl;have hfz8_0 := blk_frozen BK185.out 0))
  refine bodyPost_ret (results_cell_row rfl _ _ gb185 24 #[.slice Ao7 y186.length co7] (0, 0) _ rfl (by (with_reducible repeat first|apply bN|apply bD|apply bA);refine blk_put (cs := #[.slice none 0 0]) ?_ 0 _ rfl;(with_reducible repeat first|apply bN|apply bD|apply bA);exact BK185.out) Try.underlying24 rfl (by kernel_rfl)) rfl ?_
  exact ⟨_, by first|rfl|(simp [errW_none, errW_some] <;> rfl)|(simp [*, errW_none, errW_some] <;> rfl), by (with_reducible repeat first|apply nA|apply nN|apply nD);exact Kd.N_mono (Kd.N_far (p := ⟨gb185, 0, none⟩) (Kd.N_mono HO188.out (fun k_ hk => (⟨hk, hk.2⟩ : _ ∧ k_ ≠ gb185))) (fun _ hk => hk.2) (.slice Ao7 y186.length co7)) (fun _ hk => hk.1.1), by repeat (first|(with_reducible first|exact HB.out|apply eA|apply eN|apply eD|refine below_set ?_ GE185.out)|exact HB.out)⟩

/-! ### changeforgelaw1_replaced: function 23 -/
def changeforgelaw1_replaced.f (k : Nat)  : Option (Bool) := (changeforgelaw1_hunk.f 1 (([(⟨#[98]⟩ : ByteArray)] : List ByteArray)) (([(⟨#[99]⟩ : ByteArray), (⟨#[100]⟩ : ByteArray)] : List ByteArray))).bind fun t195 => ((textpatch_Apply.f t195 (([(⟨#[97]⟩ : ByteArray), (⟨#[98]⟩ : ByteArray)] : List ByteArray))).bind fun bt202 => ((textpatch_Invert.f k t195).bind fun bt208 => (if bt202.2.1 = 0 then (if bt208.2.1 = 0 then ((changeforgeequal_Strings.f bt202.1 (([(⟨#[97]⟩ : ByteArray), (⟨#[99]⟩ : ByteArray), (⟨#[100]⟩ : ByteArray)] : List ByteArray))).bind fun t218 => (if t218 = true then ((changeforgelaw1_hunk.f 1 (([(⟨#[99]⟩ : ByteArray), (⟨#[100]⟩ : ByteArray)] : List ByteArray)) (([(⟨#[98]⟩ : ByteArray)] : List ByteArray))).bind fun t225 => ((changeforgeequal_Patch.f k bt208.1 t225).bind fun t228 => (some t228))) else (some false))) else (some false)) else (some false))))
theorem changeforgelaw1_replaced.mono : ∀ k, LeO (changeforgelaw1_replaced.f k ) (changeforgelaw1_replaced.f (k + 1) ) := by
  intro  k
  unfold changeforgelaw1_replaced.f
  repeat' first
      | (with_reducible exact changeforgeequal_Patch.mono _ _ _)
      | (with_reducible exact textpatch_Invert.mono _ _)
      | (with_reducible exact LeO.refl _)
      | (with_reducible exact LeO.none _)
      | (with_reducible refine LeO.ite ?_ ?_)
      | (with_reducible refine LeO.bind ?_ (fun _ => ?_))
      | exact changeforgeequal_Patch.mono _ _ _
      | exact textpatch_Invert.mono _ _
      | exact LeO.none _
      | refine LeO.ite ?_ ?_
      | refine LeO.bind ?_ (fun _ => ?_)
def changeforgelaw1_replaced.T4 : Bool × List (List Nat × List Nat) := (true, [([], []), ([0], [0]), ([1], [1]), ([2], [2]), ([3], [3]), ([4, 3], [3, 4]), ([5, 3], [3, 5]), ([3, 6], [3, 6]), ([7, 3], [7]), ([8], [8]), ([8], [8]), ([9, 10, 8, 8], [8, 9, 10]), ([8, 11], [8, 11]), ([12, 11], [12]), ([13], [13]), ([13], [13]), ([13], [13]), ([15, 16, 13, 13], [13, 15, 16]), ([14, 17, 17, 13], [13, 14, 17]), ([13, 18], [13, 18]), ([19, 18, 0, 1, 2, 3, 4, 5, 6, 7, 8, 9, 10, 11, 12, 13, 14, 15, 16, 17, 18, 19], [19])])
def changeforgelaw1_replaced.B4 : List Nat := [0, 1, 3, 7, 15, 31, 63, 127, 255, 511, 511, 2047, 4095, 8191, 16383, 16383, 16383, 114687, 262143, 524287, 1048575]
theorem changeforgelaw1_replaced.tab4 : rtab .any (opsOf Try.f23 4) = changeforgelaw1_replaced.T4 := by kernel_rfl
theorem changeforgelaw1_replaced.bits4 : waitsOk changeforgelaw1_replaced.T4.2 changeforgelaw1_replaced.B4 = true := by kernel_rfl
set_option maxHeartbeats 8000000 in
set_option maxRecDepth 100000 in
theorem changeforgelaw1_replaced.calls (k : Nat)  (r : Bool) (w : World) (h : changeforgelaw1_replaced.f k  = some r) (hrt : r = true) :
    Calls Try.prog 23 #[] w fun e w' => e = .returned (.bool r) ∧ Below w.heap.size w w' := by
  have hu24 := Try.underlying24
  have hu27 := Try.underlying27
  have HB := Aside0.mk (Below.refl w.heap.size w)
  have H : ((changeforgelaw1_hunk.f 1 (([(⟨#[98]⟩ : ByteArray)] : List ByteArray)) (([(⟨#[99]⟩ : ByteArray), (⟨#[100]⟩ : ByteArray)] : List ByteArray))).bind fun t195 => ((textpatch_Apply.f t195 (([(⟨#[97]⟩ : ByteArray), (⟨#[98]⟩ : ByteArray)] : List ByteArray))).bind fun bt202 => ((textpatch_Invert.f k t195).bind fun bt208 => (if bt202.2.1 = 0 then (if bt208.2.1 = 0 then ((changeforgeequal_Strings.f bt202.1 (([(⟨#[97]⟩ : ByteArray), (⟨#[99]⟩ : ByteArray), (⟨#[100]⟩ : ByteArray)] : List ByteArray))).bind fun t218 => (if t218 = true then ((changeforgelaw1_hunk.f 1 (([(⟨#[99]⟩ : ByteArray), (⟨#[100]⟩ : ByteArray)] : List ByteArray)) (([(⟨#[98]⟩ : ByteArray)] : List ByteArray))).bind fun t225 => ((changeforgeequal_Patch.f k bt208.1 t225).bind fun t228 => (some t228))) else (some false))) else (some false)) else (some false))))) = some r := h
  clear h
  obtain ⟨y189, hy189⟩ : ∃ y_ : List ByteArray, y_ = (([(⟨#[98]⟩ : ByteArray)] : List ByteArray)) := ⟨_, rfl⟩
  replace H : ((changeforgelaw1_hunk.f 1 y189 (([(⟨#[99]⟩ : ByteArray), (⟨#[100]⟩ : ByteArray)] : List ByteArray))).bind fun t195 => ((textpatch_Apply.f t195 (([(⟨#[97]⟩ : ByteArray), (⟨#[98]⟩ : ByteArray)] : List ByteArray))).bind fun bt202 => ((textpatch_Invert.f k t195).bind fun bt208 => (if bt202.2.1 = 0 then (if bt208.2.1 = 0 then ((changeforgeequal_Strings.f bt202.1 (([(⟨#[97]⟩ : ByteArray), (⟨#[99]⟩ : ByteArray), (⟨#[100]⟩ : ByteArray)] : List ByteArray))).bind fun t218 => (if t218 = true then ((changeforgelaw1_hunk.f 1 (([(⟨#[99]⟩ : ByteArray), (⟨#[100]⟩ : ByteArray)] : List ByteArray)) (([(⟨#[98]⟩ : ByteArray)] : List ByteArray))).bind fun t225 => ((changeforgeequal_Patch.f k bt208.1 t225).bind fun t228 => (some t228))) else (some false))) else (some false)) else (some false))))) = some r := by first|(rw [hy189];with_reducible exact H)|(have H2_ := (Option.bind_some _ _).symm.trans H;rw [hy189];with_reducible exact H2_)|(have H2_ := (Option.bind_some _ _).symm.trans H;with_reducible exact H2_)|with_reducible exact H|(rw [hy189];exact H)|exact H
  have Ny189 := Aside0.mk hy189
  clear hy189
  obtain ⟨y192, hy192⟩ : ∃ y_ : List ByteArray, y_ = (([(⟨#[99]⟩ : ByteArray), (⟨#[100]⟩ : ByteArray)] : List ByteArray)) := ⟨_, rfl⟩
  replace H : ((changeforgelaw1_hunk.f 1 y189 y192).bind fun t195 => ((textpatch_Apply.f t195 (([(⟨#[97]⟩ : ByteArray), (⟨#[98]⟩ : ByteArray)] : List ByteArray))).bind fun bt202 => ((textpatch_Invert.f k t195).bind fun bt208 => (if bt202.2.1 = 0 then (if bt208.2.1 = 0 then ((changeforgeequal_Strings.f bt202.1 (([(⟨#[97]⟩ : ByteArray), (⟨#[99]⟩ : ByteArray), (⟨#[100]⟩ : ByteArray)] : List ByteArray))).bind fun t218 => (if t218 = true then ((changeforgelaw1_hunk.f 1 (([(⟨#[99]⟩ : ByteArray), (⟨#[100]⟩ : ByteArray)] : List ByteArray)) (([(⟨#[98]⟩ : ByteArray)] : List ByteArray))).bind fun t225 => ((changeforgeequal_Patch.f k bt208.1 t225).bind fun t228 => (some t228))) else (some false))) else (some false)) else (some false))))) = some r := by first|(rw [hy192];with_reducible exact H)|(have H2_ := (Option.bind_some _ _).symm.trans H;rw [hy192];with_reducible exact H2_)|(have H2_ := (Option.bind_some _ _).symm.trans H;with_reducible exact H2_)|with_reducible exact H|(rw [hy192];exact H)|exact H
  have Ny192 := Aside0.mk hy192
  clear hy192
  replace H := Option.bind_eq_some_iff.mp H
  obtain ⟨t195, A10, H⟩ := H
  replace H : ((textpatch_Apply.f t195 (([(⟨#[97]⟩ : ByteArray), (⟨#[98]⟩ : ByteArray)] : List ByteArray))).bind fun bt202 => ((textpatch_Invert.f k t195).bind fun bt208 => (if bt202.2.1 = 0 then (if bt208.2.1 = 0 then ((changeforgeequal_Strings.f bt202.1 (([(⟨#[97]⟩ : ByteArray), (⟨#[99]⟩ : ByteArray), (⟨#[100]⟩ : ByteArray)] : List ByteArray))).bind fun t218 => (if t218 = true then ((changeforgelaw1_hunk.f 1 (([(⟨#[99]⟩ : ByteArray), (⟨#[100]⟩ : ByteArray)] : List ByteArray)) (([(⟨#[98]⟩ : ByteArray)] : List ByteArray))).bind fun t225 => ((changeforgeequal_Patch.f k bt208.1 t225).bind fun t228 => (some t228))) else (some false))) else (some false)) else (some false)))) = some r := H
  have A1 := Aside0.mk A10
  clear A10
  obtain ⟨y199, hy199⟩ : ∃ y_ : List ByteArray, y_ = (([(⟨#[97]⟩ : ByteArray), (⟨#[98]⟩ : ByteArray)] : List ByteArray)) := ⟨_, rfl⟩
  replace H : ((textpatch_Apply.f t195 y199).bind fun bt202 => ((textpatch_Invert.f k t195).bind fun bt208 => (if bt202.2.1 = 0 then (if bt208.2.1 = 0 then ((changeforgeequal_Strings.f bt202.1 (([(⟨#[97]⟩ : ByteArray), (⟨#[99]⟩ : ByteArray), (⟨#[100]⟩ : ByteArray)] : List ByteArray))).bind fun t218 => (if t218 = true then ((changeforgelaw1_hunk.f 1 (([(⟨#[99]⟩ : ByteArray), (⟨#[100]⟩ : ByteArray)] : List ByteArray)) (([(⟨#[98]⟩ : ByteArray)] : List ByteArray))).bind fun t225 => ((changeforgeequal_Patch.f k bt208.1 t225).bind fun t228 => (some t228))) else (some false))) else (some false)) else (some false)))) = some r := by first|(rw [hy199];with_reducible exact H)|(have H2_ := (Option.bind_some _ _).symm.trans H;rw [hy199];with_reducible exact H2_)|(have H2_ := (Option.bind_some _ _).symm.trans H;with_reducible exact H2_)|with_reducible exact H|(rw [hy199];exact H)|exact H
  have Ny199 := Aside0.mk hy199
  clear hy199
  replace H := Option.bind_eq_some_iff.mp H
  obtain ⟨⟨t202, t205, t206⟩, A20, H⟩ := H
  replace H : ((textpatch_Invert.f k t195).bind fun bt208 => (if t205 = 0 then (if bt208.2.1 = 0 then ((changeforgeequal_Strings.f t202 (([(⟨#[97]⟩ : ByteArray), (⟨#[99]⟩ : ByteArray), (⟨#[100]⟩ : ByteArray)] : List ByteArray))).bind fun t218 => (if t218 = true then ((changeforgelaw1_hunk.f 1 (([(⟨#[99]⟩ : ByteArray), (⟨#[100]⟩ : ByteArray)] : List ByteArray)) (([(⟨#[98]⟩ : ByteArray)] : List ByteArray))).bind fun t225 => ((changeforgeequal_Patch.f k bt208.1 t225).bind fun t228 => (some t228))) else (some false))) else (some false)) else (some false))) = some r := H
  have A2 := Aside0.mk A20
  clear A20
  replace H := Option.bind_eq_some_iff.mp H
  obtain ⟨⟨t208, t211, t212⟩, A30, H⟩ := H
  replace H : (if t205 = 0 then (if t211 = 0 then ((changeforgeequal_Strings.f t202 (([(⟨#[97]⟩ : ByteArray), (⟨#[99]⟩ : ByteArray), (⟨#[100]⟩ : ByteArray)] : List ByteArray))).bind fun t218 => (if t218 = true then ((changeforgelaw1_hunk.f 1 (([(⟨#[99]⟩ : ByteArray), (⟨#[100]⟩ : ByteArray)] : List ByteArray)) (([(⟨#[98]⟩ : ByteArray)] : List ByteArray))).bind fun t225 => ((changeforgeequal_Patch.f k t208 t225).bind fun t228 => (some t228))) else (some false))) else (some false)) else (some false)) = some r := H
  have A3 := Aside0.mk A30
  clear A30
  by_cases c4 : t205 = 0
  · rw [if_pos c4] at H
    have c4b0 : (t205 == 0) = true := beq_iff_eq.mpr c4
    have c4b1 : (t205 != 0) = false := bne_eq_false_iff_eq.mpr c4
    clear c4
    by_cases c5 : t211 = 0
    · rw [if_pos c5] at H
      have c5b0 : (t211 == 0) = true := beq_iff_eq.mpr c5
      have c5b1 : (t211 != 0) = false := bne_eq_false_iff_eq.mpr c5
      clear c5
      obtain ⟨y215, hy215⟩ : ∃ y_ : List ByteArray, y_ = (([(⟨#[97]⟩ : ByteArray), (⟨#[99]⟩ : ByteArray), (⟨#[100]⟩ : ByteArray)] : List ByteArray)) := ⟨_, rfl⟩
      replace H : ((changeforgeequal_Strings.f t202 y215).bind fun t218 => (if t218 = true then ((changeforgelaw1_hunk.f 1 (([(⟨#[99]⟩ : ByteArray), (⟨#[100]⟩ : ByteArray)] : List ByteArray)) (([(⟨#[98]⟩ : ByteArray)] : List ByteArray))).bind fun t225 => ((changeforgeequal_Patch.f k t208 t225).bind fun t228 => (some t228))) else (some false))) = some r := by first|(rw [hy215];with_reducible exact H)|(have H2_ := (Option.bind_some _ _).symm.trans H;rw [hy215];with_reducible exact H2_)|(have H2_ := (Option.bind_some _ _).symm.trans H;with_reducible exact H2_)|with_reducible exact H|(rw [hy215];exact H)|exact H
      have Ny215 := Aside0.mk hy215
      clear hy215
      replace H := Option.bind_eq_some_iff.mp H
      obtain ⟨t218, A60, H⟩ := H
      replace H : (if t218 = true then ((changeforgelaw1_hunk.f 1 (([(⟨#[99]⟩ : ByteArray), (⟨#[100]⟩ : ByteArray)] : List ByteArray)) (([(⟨#[98]⟩ : ByteArray)] : List ByteArray))).bind fun t225 => ((changeforgeequal_Patch.f k t208 t225).bind fun t228 => (some t228))) else (some false)) = some r := H
      have A6 := Aside0.mk A60
      clear A60
      by_cases c7 : t218 = true
      · subst c7
        have H1 : ((changeforgelaw1_hunk.f 1 (([(⟨#[99]⟩ : ByteArray), (⟨#[100]⟩ : ByteArray)] : List ByteArray)) (([(⟨#[98]⟩ : ByteArray)] : List ByteArray))).bind fun t225 => ((changeforgeequal_Patch.f k t208 t225).bind fun t228 => (some t228))) = some r := by rw [if_pos rfl] at H;exact H
        clear H
        have H := H1
        clear H1
        obtain ⟨y219, hy219⟩ : ∃ y_ : List ByteArray, y_ = (([(⟨#[99]⟩ : ByteArray), (⟨#[100]⟩ : ByteArray)] : List ByteArray)) := ⟨_, rfl⟩
        replace H : ((changeforgelaw1_hunk.f 1 y219 (([(⟨#[98]⟩ : ByteArray)] : List ByteArray))).bind fun t225 => ((changeforgeequal_Patch.f k t208 t225).bind fun t228 => (some t228))) = some r := by first|(rw [hy219];with_reducible exact H)|(have H2_ := (Option.bind_some _ _).symm.trans H;rw [hy219];with_reducible exact H2_)|(have H2_ := (Option.bind_some _ _).symm.trans H;with_reducible exact H2_)|with_reducible exact H|(rw [hy219];exact H)|exact H
        have Ny219 := Aside0.mk hy219
        clear hy219
        obtain ⟨y222, hy222⟩ : ∃ y_ : List ByteArray, y_ = (([(⟨#[98]⟩ : ByteArray)] : List ByteArray)) := ⟨_, rfl⟩
        replace H : ((changeforgelaw1_hunk.f 1 y219 y222).bind fun t225 => ((changeforgeequal_Patch.f k t208 t225).bind fun t228 => (some t228))) = some r := by first|(rw [hy222];with_reducible exact H)|(have H2_ := (Option.bind_some _ _).symm.trans H;rw [hy222];with_reducible exact H2_)|(have H2_ := (Option.bind_some _ _).symm.trans H;with_reducible exact H2_)|with_reducible exact H|(rw [hy222];exact H)|exact H
        have Ny222 := Aside0.mk hy222
        clear hy222
        replace H := Option.bind_eq_some_iff.mp H
        obtain ⟨t225, A80, H⟩ := H
        replace H : ((changeforgeequal_Patch.f k t208 t225).bind fun t228 => (some t228)) = some r := H
        have A8 := Aside0.mk A80
        clear A80
        replace H := Option.bind_eq_some_iff.mp H
        obtain ⟨t228, A90, H⟩ := H
        replace H : (some t228) = some r := H
        have A9 := Aside0.mk A90
        clear A90
        obtain rfl := Option.some.inj H
        go_enter Try.func23, Try.ntmps23
        try go_wp2_with (first|((with_reducible refine gate_dst (N := 6) rfl ?_);(try (refine gate_guard (by rfl) ?_;dsimp only));refine Kd.R_lit Kd.string _ 9 ?hg (N := 6) ?hd (xs := ([(⟨#[98]⟩ : ByteArray)] : List ByteArray)) (inner := [.string (⟨#[98]⟩ : ByteArray)]) (ok := fun _ => True) (okp := fun _ => True) ?hr ?hp (fun _ hk => hk) trivial (Below.refl _ _) (Nat.le_refl _) (by simp) ?_;(case hd => rfl);(case hg => rfl);(case hr => first|(go_simp;done)|(go_simp;rfl));(case hp => exact (Reps.one (show Kd.M Kd.string _ _ _ (⟨#[98]⟩ : ByteArray) [.string (⟨#[98]⟩ : ByteArray)] from rfl) (Reps.none _ _)));intro v190 w10 ho11 hb hg_ hnew_;clear hg_ hnew_;(first|rw [← Ny189.out] at ho11|(simp only [Int.reduceToNat] at ho11;rw [← Ny189.out] at ho11));have n0_ := Aside0.mk (Kd.R_lower ho11 (below_size (by repeat (first|(with_reducible first|exact HB.out|apply eA|apply eN|apply eD)|exact HB.out))));have n1_ := Aside0.mk (below_step (by repeat (first|(with_reducible first|exact HB.out|apply eA|apply eN|apply eD)|exact HB.out)) hb);clear HB;have HO191 := n0_;have HB := n1_;clear n0_ n1_;clear hb ho11)|((with_reducible refine gate_dst (N := 7) rfl ?_);(try (refine gate_guard (by rfl) ?_;dsimp only));refine Kd.R_lit Kd.string _ 9 ?hg (N := 7) ?hd (xs := ([(⟨#[99]⟩ : ByteArray), (⟨#[100]⟩ : ByteArray)] : List ByteArray)) (inner := [.string (⟨#[99]⟩ : ByteArray), .string (⟨#[100]⟩ : ByteArray)]) (ok := fun _ => True) (okp := fun _ => True) ?hr ?hp (fun _ hk => hk) trivial (Below.refl _ _) (Nat.le_refl _) (by simp) ?_;(case hd => rfl);(case hg => rfl);(case hr => first|(go_simp;done)|(go_simp;rfl));(case hp => exact (Reps.one (show Kd.M Kd.string _ _ _ (⟨#[99]⟩ : ByteArray) [.string (⟨#[99]⟩ : ByteArray)] from rfl) (Reps.one (show Kd.M Kd.string _ _ _ (⟨#[100]⟩ : ByteArray) [.string (⟨#[100]⟩ : ByteArray)] from rfl) (Reps.none _ _))));intro v193 w12 ho13 hb hg_ hnew_;clear hg_ hnew_;(first|rw [← Ny192.out] at ho13|(simp only [Int.reduceToNat] at ho13;rw [← Ny192.out] at ho13));have n0_ := Aside0.mk (Kd.R_elder' (by (with_reducible repeat first|apply rA|apply rN|apply rD);exact HO191.out) (Kd.R_base ho13) hb);have n1_ := Aside0.mk (Kd.R_lower (Kd.R_new' ho13 (Kd.R_lt (by (with_reducible repeat first|apply rA|apply rN|apply rD);exact HO191.out))) (below_size (by repeat (first|(with_reducible first|exact HB.out|apply eA|apply eN|apply eD)|exact HB.out))));have n2_ := Aside0.mk (below_step (by repeat (first|(with_reducible first|exact HB.out|apply eA|apply eN|apply eD)|exact HB.out)) hb);clear HO191;clear HB;have HO191 := n0_;have HO194 := n1_;have HB := n2_;clear n0_ n1_ n2_;clear hb ho13;obtain ⟨Ao14, co14, eo14⟩ := Kd.R_slice HO191.out;subst eo14;obtain ⟨Ao15, co15, eo15⟩ := Kd.R_slice HO194.out;subst eo15)|((with_reducible refine gate_callee (f := 44) rfl ?_);refine goesL_ (some 8) rfl rfl Try.func44 (by kernel_rfl) rfl #[.int .i64 1, .slice Ao14 y189.length co14, .slice Ao15 y192.length co15] rfl (by (try simp only [List.map_toArray, List.map_cons, List.map_nil]);first|done|rfl|(simp only [List.length_drop, List.length_take];rfl)) ?_;(with_reducible refine (changeforgelaw1_hunk.calls 1 (fun k_ => some k_ = (.slice Ao14 y189.length co14 : Value).ownBlock) _ _ y189 (fun k_ => some k_ = (.slice Ao15 y192.length co15 : Value).ownBlock) _ _ y192 t195 _ ?side1 ?side2 A1.out).mono ?_);(case side1 => exact Kd.R_V (Kd.R_tight rfl (HO191.out)));(case side2 => exact Kd.R_V (Kd.R_tight rfl (HO194.out)));rintro e w16 ⟨v196, rfl, ho0, hb⟩;refine ⟨_, rfl, ?_⟩;have n0_ := Aside0.mk (Kd.R_below (by (with_reducible repeat first|apply rA|apply rN|apply rD);exact HO191.out) hb);have n1_ := Aside0.mk (Kd.R_below (by (with_reducible repeat first|apply rA|apply rN|apply rD);exact HO194.out) hb);have n2_ := Aside0.mk (Kd.N_lower (Kd.N_mono (ok' := fun k_ => True) ho0 (fun k_ hk_ => trivial)) (below_size (by repeat (first|(with_reducible first|exact HB.out|apply eA|apply eN|apply eD)|exact HB.out))));have n3_ := Aside0.mk (below_step (by repeat (first|(with_reducible first|exact HB.out|apply eA|apply eN|apply eD)|exact HB.out)) hb);clear HO191;clear HO194;clear HB;have HO191 := n0_;have HO194 := n1_;have HO197 := n2_;have HB := n3_;clear n0_ n1_ n2_ n3_;(try clear hb);(try clear hb2);(try clear hk);(try clear hi);(try clear ho0))|((with_reducible refine gate_dst (N := 1) rfl ?_);(try (refine gate_guard (by rfl) ?_;dsimp only));refine box_event ?hg (N := 1) ?hd (cs := #[.slice none 0 0]) (t := 24) ?hr ?_;(case hd => rfl);(case hg => rfl);(case hr => first|(go_simp;done)|(go_simp;rfl));intro gb198 hg w17 hbox hb;have n0_ := Aside0.mk (Kd.R_below (by (with_reducible repeat first|apply rA|apply rN|apply rD);exact HO191.out) hb);have n1_ := Aside0.mk (Kd.R_below (by (with_reducible repeat first|apply rA|apply rN|apply rD);exact HO194.out) hb);have n2_ := Aside0.mk (Kd.N_below (Kd.N_elderB (by (with_reducible repeat first|apply nA|apply nN|apply nD);exact HO197.out) gb198 (Nat.le_of_eq hg.symm)) hb);have n3_ := Aside0.mk (below_step (by repeat (first|(with_reducible first|exact HB.out|apply eA|apply eN|apply eD)|exact HB.out)) hb);have n4_ := Aside0.mk (hbox);have n5_ := Aside0.mk ((by rw [hg];exact (below_size (by repeat (first|(with_reducible first|exact HB.out|apply eA|apply eN|apply eD)|exact HB.out))) : w.heap.size ≤ gb198));have n6_ := Aside0.mk ((by rw [hg];exact (below_size (by repeat (first|(with_reducible first|exact HB.out|apply eA|apply eN|apply eD)|exact HB.out))) : w.heap.size ≤ gb198));clear HO191;clear HO194;clear HO197;clear HB;have HO191 := n0_;have HO194 := n1_;have HO197 := n2_;have HB := n3_;have BK198 := n4_;have GW198 := n5_;have GE198 := n6_;clear n0_ n1_ n2_ n3_ n4_ n5_ n6_;clear hb hbox hg;obtain ⟨Ao18, co18, eo18⟩ := Kd.N_slice HO197.out;subst eo18;have hcz19_0 : w17.cell? ⟨gb198, 0, none⟩ = some (.slice none 0 0) := (blk_cell BK198.out 0).trans rfl;have hfz19_0 := blk_frozen BK198.out 0)|((with_reducible refine gate_dst (N := 11) rfl ?_);(try (refine gate_guard (by rfl) ?_;dsimp only));refine Kd.R_lit Kd.string _ 9 ?hg (N := 11) ?hd (xs := ([(⟨#[97]⟩ : ByteArray), (⟨#[98]⟩ : ByteArray)] : List ByteArray)) (inner := [.string (⟨#[97]⟩ : ByteArray), .string (⟨#[98]⟩ : ByteArray)]) (ok := fun _ => True) (okp := fun _ => True) ?hr ?hp (fun _ hk => hk) trivial (Below.refl _ _) (Nat.le_refl _) (by simp) ?_;(case hd => rfl);(case hg => rfl);(case hr => first|(go_simp;done)|(go_simp;rfl));(case hp => exact (Reps.one (show Kd.M Kd.string _ _ _ (⟨#[97]⟩ : ByteArray) [.string (⟨#[97]⟩ : ByteArray)] from rfl) (Reps.one (show Kd.M Kd.string _ _ _ (⟨#[98]⟩ : ByteArray) [.string (⟨#[98]⟩ : ByteArray)] from rfl) (Reps.none _ _))));intro v200 w20 ho21 hb hg_ hnew_;clear hg_ hnew_;(first|rw [← Ny199.out] at ho21|(simp only [Int.reduceToNat] at ho21;rw [← Ny199.out] at ho21));have n0_ := Aside0.mk (Kd.R_elder' (by (with_reducible repeat first|apply rA|apply rN|apply rD);exact (Kd.R_mono (Kd.R_far (p := ⟨gb198, 0, none⟩) (Kd.R_types HO191.out BK198.out (by decide)) (fun _ hk => hk.2) (.slice Ao18 t195.length co18)) (fun _ h_ => h_.1))) (Kd.R_base ho21) hb);have n1_ := Aside0.mk (Kd.R_elder' (by (with_reducible repeat first|apply rA|apply rN|apply rD);exact (Kd.R_mono (Kd.R_far (p := ⟨gb198, 0, none⟩) (Kd.R_types HO194.out BK198.out (by decide)) (fun _ hk => hk.2) (.slice Ao18 t195.length co18)) (fun _ h_ => h_.1))) (Kd.R_base ho21) hb);have n2_ := Aside0.mk (Kd.N_elder' (by (with_reducible repeat first|apply nA|apply nN|apply nD);exact (Kd.N_mono (Kd.N_far (p := ⟨gb198, 0, none⟩) (Kd.N_mono HO197.out (fun k_ hk => (⟨hk, hk.2⟩ : _ ∧ k_ ≠ gb198))) (fun _ hk => hk.2) (.slice Ao18 t195.length co18)) (fun _ h_ => h_.1))) (Kd.R_base ho21) hb);have n3_ := Aside0.mk (Kd.R_lower (Kd.R_new' (Kd.R_new' ho21 (Kd.R_lt (by (with_reducible repeat first|apply rA|apply rN|apply rD);exact (Kd.R_mono (Kd.R_far (p := ⟨gb198, 0, none⟩) (Kd.R_types HO191.out BK198.out (by decide)) (fun _ hk => hk.2) (.slice Ao18 t195.length co18)) (fun _ h_ => h_.1))))) (Kd.R_lt (by (with_reducible repeat first|apply rA|apply rN|apply rD);exact (Kd.R_mono (Kd.R_far (p := ⟨gb198, 0, none⟩) (Kd.R_types HO194.out BK198.out (by decide)) (fun _ hk => hk.2) (.slice Ao18 t195.length co18)) (fun _ h_ => h_.1))))) (below_size (by repeat (first|(with_reducible first|exact HB.out|apply eA|apply eN|apply eD|refine below_set ?_ GE198.out)|exact HB.out))));have n4_ := Aside0.mk (blk_below (g := gb198) (o := .cells #[.slice Ao18 t195.length co18] 24 (0, 0)) (by (with_reducible repeat first|apply bN|apply bD|apply bA);refine blk_put (cs := #[.slice none 0 0]) ?_ 0 _ rfl;(with_reducible repeat first|apply bN|apply bD|apply bA);exact BK198.out) hb);have n5_ := Aside0.mk (below_step (by repeat (first|(with_reducible first|exact HB.out|apply eA|apply eN|apply eD|refine below_set ?_ GE198.out)|exact HB.out)) hb);clear HO191;clear HO194;clear HO197;clear BK198;clear HB;have HO191 := n0_;have HO194 := n1_;have HO197 := n2_;have HO201 := n3_;have BK198 := n4_;have HB := n5_;clear n0_ n1_ n2_ n3_ n4_ n5_;clear hb ho21;obtain ⟨Ao22, co22, eo22⟩ := Kd.R_slice HO201.out;subst eo22)|((with_reducible refine gate_callee (f := 15) rfl ?_);refine goesL_ (some 12) rfl rfl Try.func15 (by kernel_rfl) rfl #[.agg #[.slice Ao18 t195.length co18], .slice Ao22 y199.length co22] rfl (by (try simp only [List.map_toArray, List.map_cons, List.map_nil]);first|done|rfl|(simp only [List.length_drop, List.length_take];rfl)) ?_;(with_reducible refine (textpatch_Apply.calls _ _ t195 _ _ y199 t202 t205 t206 _ ?side1 ?side2 ?side3 ?side4 A2.out).mono ?_);(case side1 => repeat (first|exact (Kd.N_reads' HO197.out).2.2|(with_reducible refine Kd.C_alloc ?_ _)|(with_reducible refine Kd.C_drewN ?_ _)|(with_reducible refine Kd.C_drew ?_)));(case side2 => exact (Kd.N_reads' HO197.out).2.1);(case side3 => repeat (first|exact (Kd.R_reads' HO201.out).2.2|(with_reducible refine Kd.C_alloc ?_ _)|(with_reducible refine Kd.C_drewN ?_ _)|(with_reducible refine Kd.C_drew ?_)));(case side4 => exact (Kd.R_reads' HO201.out).2.1);rintro e w23 ⟨v203, rfl, ho0, hb⟩;refine ⟨_, rfl, ?_⟩;have n0_ := Aside0.mk (Kd.R_elder' (by (with_reducible repeat first|apply rA|apply rN|apply rD);exact HO191.out) (Kd.R_base ho0) hb);have n1_ := Aside0.mk (Kd.R_elder' (by (with_reducible repeat first|apply rA|apply rN|apply rD);exact HO194.out) (Kd.R_base ho0) hb);have n2_ := Aside0.mk (Kd.N_elder' (by (with_reducible repeat first|apply nA|apply nN|apply nD);exact HO197.out) (Kd.R_base ho0) hb);have n3_ := Aside0.mk (Kd.R_elder' (by (with_reducible repeat first|apply rA|apply rN|apply rD);exact HO201.out) (Kd.R_base ho0) hb);have n4_ := Aside0.mk (Kd.R_lower (Kd.R_new' (Kd.R_new' (Kd.R_new' ho0 (Kd.R_lt (by (with_reducible repeat first|apply rA|apply rN|apply rD);exact HO191.out))) (Kd.R_lt (by (with_reducible repeat first|apply rA|apply rN|apply rD);exact HO194.out))) (Kd.R_lt (by (with_reducible repeat first|apply rA|apply rN|apply rD);exact HO201.out))) (below_size (by repeat (first|(with_reducible first|exact HB.out|apply eA|apply eN|apply eD|refine below_set ?_ GE198.out)|exact HB.out))));have n5_ := Aside0.mk (blk_below (g := gb198) (o := .cells #[.slice Ao18 t195.length co18] 24 (0, 0)) (by (with_reducible repeat first|apply bN|apply bD|apply bA);exact BK198.out) hb);have n6_ := Aside0.mk (below_step (by repeat (first|(with_reducible first|exact HB.out|apply eA|apply eN|apply eD|refine below_set ?_ GE198.out)|exact HB.out)) hb);clear HO191;clear HO194;clear HO197;clear HO201;clear BK198;clear HB;have HO191 := n0_;have HO194 := n1_;have HO197 := n2_;have HO201 := n3_;have HO204 := n4_;have BK198 := n5_;have HB := n6_;clear n0_ n1_ n2_ n3_ n4_ n5_ n6_;(try clear hb);(try clear hb2);(try clear hk);(try clear hi);(try clear ho0))|((with_reducible refine gate_dst (N := 3) rfl ?_);(try (refine gate_guard (by rfl) ?_;dsimp only));refine box_event ?hg (N := 3) ?hd (cs := #[.int .i64 0, .int .i64 0]) (t := 27) ?hr ?_;(case hd => rfl);(case hg => rfl);(case hr => first|(go_simp;done)|(go_simp;rfl));intro gb207 hg w24 hbox hb;have n0_ := Aside0.mk (Kd.R_below (by (with_reducible repeat first|apply rA|apply rN|apply rD);exact HO191.out) hb);have n1_ := Aside0.mk (Kd.R_below (by (with_reducible repeat first|apply rA|apply rN|apply rD);exact HO194.out) hb);have n2_ := Aside0.mk (Kd.N_below (Kd.N_elderB (by (with_reducible repeat first|apply nA|apply nN|apply nD);exact HO197.out) gb207 (Nat.le_of_eq hg.symm)) hb);have n3_ := Aside0.mk (Kd.R_below (by (with_reducible repeat first|apply rA|apply rN|apply rD);exact HO201.out) hb);have n4_ := Aside0.mk (Kd.R_below (by (with_reducible repeat first|apply rA|apply rN|apply rD);exact HO204.out) hb);have n5_ := Aside0.mk (blk_below (g := gb198) (o := .cells #[.slice Ao18 t195.length co18] 24 (0, 0)) (by (with_reducible repeat first|apply bN|apply bD|apply bA);exact BK198.out) hb);have n6_ := Aside0.mk (below_step (by repeat (first|(with_reducible first|exact HB.out|apply eA|apply eN|apply eD|refine below_set ?_ GE198.out)|exact HB.out)) hb);have n7_ := Aside0.mk (hbox);have n8_ := Aside0.mk ((by rw [hg];exact (below_size (by repeat (first|(with_reducible first|exact HB.out|apply eA|apply eN|apply eD|refine below_set ?_ GE198.out)|exact HB.out))) : w.heap.size ≤ gb207));have n9_ := Aside0.mk ((by rw [hg];exact (below_size (by repeat (first|(with_reducible first|exact HB.out|apply eA|apply eN|apply eD|refine below_set ?_ GE198.out)|exact HB.out))) : w.heap.size ≤ gb207));have n10_ := Aside0.mk ((by rw [hg];exact Nat.ne_of_lt (blk_lt (g := gb198) (o := .cells #[.slice Ao18 t195.length co18] 24 (0, 0)) (by (with_reducible repeat first|apply bN|apply bD|apply bA);exact BK198.out)) : gb198 ≠ gb207));have n11_ := Aside0.mk ((by rw [hg];exact Nat.ne_of_gt (blk_lt (g := gb198) (o := .cells #[.slice Ao18 t195.length co18] 24 (0, 0)) (by (with_reducible repeat first|apply bN|apply bD|apply bA);exact BK198.out)) : gb207 ≠ gb198));clear HO191;clear HO194;clear HO197;clear HO201;clear HO204;clear BK198;clear HB;have HO191 := n0_;have HO194 := n1_;have HO197 := n2_;have HO201 := n3_;have HO204 := n4_;have BK198 := n5_;have HB := n6_;have BK207 := n7_;have GW207 := n8_;have GE207 := n9_;have NB198_207 := n10_;have NB207_198 := n11_;clear n0_ n1_ n2_ n3_ n4_ n5_ n6_ n7_ n8_ n9_ n10_ n11_;clear hb hbox hg;have hnb25 := NB207_198.out;have hnc25 := NB198_207.out;have hcz26_0 : w24.cell? ⟨gb207, 0, none⟩ = some (.int .i64 0) := (blk_cell BK207.out 0).trans rfl;have hcz26_1 : w24.cell? ⟨gb207, 1, none⟩ = some (.int .i64 0) := (blk_cell BK207.out 1).trans rfl;have hfz26_0 := blk_frozen BK207.out 0;have hfz26_1 := blk_frozen BK207.out 1;have hcz27_0 : w24.cell? ⟨gb198, 0, none⟩ = some (.slice Ao18 t195.length co18) := (blk_cell BK198.out 0).trans rfl;have hfz27_0 := blk_frozen BK198.out 0)|((with_reducible refine gate_callee (f := 17) rfl ?_);refine goesL_ (some 17) rfl rfl Try.func17 (by kernel_rfl) rfl #[.agg #[.slice Ao18 t195.length co18]] rfl (by (try simp only [List.map_toArray, List.map_cons, List.map_nil]);first|done|rfl|(simp only [List.length_drop, List.length_take];rfl)) ?_;(with_reducible refine (textpatch_Invert.calls k _ _ t195 t208 t211 t212 _ ?side1 ?side2 A3.out).mono ?_);(case side1 => refine (Kd.N_reads' (e := 47) (base := w.heap.size) (ok := fun k_ => ((((True ∧ k_ ≠ gb198) ∧ some k_ ≠ (.slice Ao22 y199.length co22 : Value).ownBlock) ∧ some k_ ≠ (v203 : Value).ownBlock) ∧ k_ ≠ gb207)) (n := t195.length) (c := co18) ?_).2.2;exact (by (with_reducible repeat first|apply nA|apply nN|apply nD);exact (Kd.N_mono (Kd.N_far (p := ⟨gb207, 1, none⟩) (Kd.N_far (p := ⟨gb207, 0, none⟩) (Kd.N_mono HO197.out (fun k_ hk => (⟨hk, hk.2⟩ : _ ∧ k_ ≠ gb207))) (fun _ hk => hk.2) (.int .i64 t205)) (fun _ hk => hk.2) (.int .i64 t206)) (fun _ h_ => h_.1))));(case side2 => exact (Kd.N_reads' HO197.out).2.1);rintro e w28 ⟨v209, rfl, ho0, hb⟩;refine ⟨_, rfl, ?_⟩;have n0_ := Aside0.mk (Kd.R_below (by (with_reducible repeat first|apply rA|apply rN|apply rD);exact (Kd.R_mono (Kd.R_far (p := ⟨gb207, 1, none⟩) (Kd.R_far (p := ⟨gb207, 0, none⟩) (Kd.R_types HO191.out BK207.out (by decide)) (fun _ hk => hk.2) (.int .i64 t205)) (fun _ hk => hk.2) (.int .i64 t206)) (fun _ h_ => h_.1))) hb);have n1_ := Aside0.mk (Kd.R_below (by (with_reducible repeat first|apply rA|apply rN|apply rD);exact (Kd.R_mono (Kd.R_far (p := ⟨gb207, 1, none⟩) (Kd.R_far (p := ⟨gb207, 0, none⟩) (Kd.R_types HO194.out BK207.out (by decide)) (fun _ hk => hk.2) (.int .i64 t205)) (fun _ hk => hk.2) (.int .i64 t206)) (fun _ h_ => h_.1))) hb);have n2_ := Aside0.mk (Kd.N_below (by (with_reducible repeat first|apply nA|apply nN|apply nD);exact (Kd.N_mono (Kd.N_far (p := ⟨gb207, 1, none⟩) (Kd.N_far (p := ⟨gb207, 0, none⟩) (Kd.N_mono HO197.out (fun k_ hk => (⟨hk, hk.2⟩ : _ ∧ k_ ≠ gb207))) (fun _ hk => hk.2) (.int .i64 t205)) (fun _ hk => hk.2) (.int .i64 t206)) (fun _ h_ => h_.1))) hb);have n3_ := Aside0.mk (Kd.R_below (by (with_reducible repeat first|apply rA|apply rN|apply rD);exact (Kd.R_mono (Kd.R_far (p := ⟨gb207, 1, none⟩) (Kd.R_far (p := ⟨gb207, 0, none⟩) (Kd.R_types HO201.out BK207.out (by decide)) (fun _ hk => hk.2) (.int .i64 t205)) (fun _ hk => hk.2) (.int .i64 t206)) (fun _ h_ => h_.1))) hb);have n4_ := Aside0.mk (Kd.R_below (by (with_reducible repeat first|apply rA|apply rN|apply rD);exact (Kd.R_mono (Kd.R_far (p := ⟨gb207, 1, none⟩) (Kd.R_far (p := ⟨gb207, 0, none⟩) (Kd.R_types HO204.out BK207.out (by decide)) (fun _ hk => hk.2) (.int .i64 t205)) (fun _ hk => hk.2) (.int .i64 t206)) (fun _ h_ => h_.1))) hb);have n5_ := Aside0.mk (Kd.V_lower (Kd.V_mono (ok' := fun k_ => some k_ ≠ (.slice Ao14 y189.length co14 : Value).ownBlock ∧ some k_ ≠ (.slice Ao15 y192.length co15 : Value).ownBlock ∧ some k_ ≠ (.slice Ao18 t195.length co18 : Value).ownBlock ∧ some k_ ≠ (.slice Ao22 y199.length co22 : Value).ownBlock ∧ some k_ ≠ (v203 : Value).ownBlock ∧ k_ ≠ gb198 ∧ k_ ≠ gb207) ho0 (fun k_ hk_ => ⟨(Kd.fresh' (Kd.R_lt (by (with_reducible repeat first|apply rA|apply rN|apply rD);exact (Kd.R_mono (Kd.R_far (p := ⟨gb207, 1, none⟩) (Kd.R_far (p := ⟨gb207, 0, none⟩) (Kd.R_types HO191.out BK207.out (by decide)) (fun _ hk => hk.2) (.int .i64 t205)) (fun _ hk => hk.2) (.int .i64 t206)) (fun _ h_ => h_.1)))) k_ hk_), (Kd.fresh' (Kd.R_lt (by (with_reducible repeat first|apply rA|apply rN|apply rD);exact (Kd.R_mono (Kd.R_far (p := ⟨gb207, 1, none⟩) (Kd.R_far (p := ⟨gb207, 0, none⟩) (Kd.R_types HO194.out BK207.out (by decide)) (fun _ hk => hk.2) (.int .i64 t205)) (fun _ hk => hk.2) (.int .i64 t206)) (fun _ h_ => h_.1)))) k_ hk_), (Kd.fresh' (Kd.N_lt (by (with_reducible repeat first|apply nA|apply nN|apply nD);exact (Kd.N_mono (Kd.N_far (p := ⟨gb207, 1, none⟩) (Kd.N_far (p := ⟨gb207, 0, none⟩) (Kd.N_mono HO197.out (fun k_ hk => (⟨hk, hk.2⟩ : _ ∧ k_ ≠ gb207))) (fun _ hk => hk.2) (.int .i64 t205)) (fun _ hk => hk.2) (.int .i64 t206)) (fun _ h_ => h_.1)))) k_ hk_), (Kd.fresh' (Kd.R_lt (by (with_reducible repeat first|apply rA|apply rN|apply rD);exact (Kd.R_mono (Kd.R_far (p := ⟨gb207, 1, none⟩) (Kd.R_far (p := ⟨gb207, 0, none⟩) (Kd.R_types HO201.out BK207.out (by decide)) (fun _ hk => hk.2) (.int .i64 t205)) (fun _ hk => hk.2) (.int .i64 t206)) (fun _ h_ => h_.1)))) k_ hk_), (Kd.fresh' (Kd.R_lt (by (with_reducible repeat first|apply rA|apply rN|apply rD);exact (Kd.R_mono (Kd.R_far (p := ⟨gb207, 1, none⟩) (Kd.R_far (p := ⟨gb207, 0, none⟩) (Kd.R_types HO204.out BK207.out (by decide)) (fun _ hk => hk.2) (.int .i64 t205)) (fun _ hk => hk.2) (.int .i64 t206)) (fun _ h_ => h_.1)))) k_ hk_), (Kd.freshB (g := gb198) (o := .cells #[.slice Ao18 t195.length co18] 24 (0, 0)) (by (with_reducible repeat first|apply bN|apply bD|apply bA);refine blk_far ?_ NB198_207.out _;(with_reducible repeat first|apply bN|apply bD|apply bA);refine blk_far ?_ NB198_207.out _;(with_reducible repeat first|apply bN|apply bD|apply bA);exact BK198.out) k_ hk_), (Kd.freshB (g := gb207) (o := .cells #[.int .i64 t205, .int .i64 t206] 27 (0, 0)) (by (with_reducible repeat first|apply bN|apply bD|apply bA);refine blk_put (cs := #[.int .i64 t205, .int .i64 0]) ?_ 1 _ rfl;(with_reducible repeat first|apply bN|apply bD|apply bA);refine blk_put (cs := #[.int .i64 0, .int .i64 0]) ?_ 0 _ rfl;(with_reducible repeat first|apply bN|apply bD|apply bA);exact BK207.out) k_ hk_)⟩)) (below_size (by repeat (first|(with_reducible first|exact HB.out|apply eA|apply eN|apply eD|refine below_set ?_ GE198.out|refine below_set ?_ GE207.out)|exact HB.out))));have n6_ := Aside0.mk (blk_below (g := gb198) (o := .cells #[.slice Ao18 t195.length co18] 24 (0, 0)) (by (with_reducible repeat first|apply bN|apply bD|apply bA);refine blk_far ?_ NB198_207.out _;(with_reducible repeat first|apply bN|apply bD|apply bA);refine blk_far ?_ NB198_207.out _;(with_reducible repeat first|apply bN|apply bD|apply bA);exact BK198.out) hb);have n7_ := Aside0.mk (blk_below (g := gb207) (o := .cells #[.int .i64 t205, .int .i64 t206] 27 (0, 0)) (by (with_reducible repeat first|apply bN|apply bD|apply bA);refine blk_put (cs := #[.int .i64 t205, .int .i64 0]) ?_ 1 _ rfl;(with_reducible repeat first|apply bN|apply bD|apply bA);refine blk_put (cs := #[.int .i64 0, .int .i64 0]) ?_ 0 _ rfl;(with_reducible repeat first|apply bN|apply bD|apply bA);exact BK207.out) hb);have n8_ := Aside0.mk (below_step (by repeat (first|(with_reducible first|exact HB.out|apply eA|apply eN|apply eD|refine below_set ?_ GE198.out|refine below_set ?_ GE207.out)|exact HB.out)) hb);clear HO191;clear HO194;clear HO197;clear HO201;clear HO204;clear BK198;clear BK207;clear HB;have HO191 := n0_;have HO194 := n1_;have HO197 := n2_;have HO201 := n3_;have HO204 := n4_;have HO210 := n5_;have BK198 := n6_;have BK207 := n7_;have HB := n8_;clear n0_ n1_ n2_ n3_ n4_ n5_ n6_ n7_ n8_;(try clear hb);(try clear hb2);(try clear hk);(try clear hi);(try clear ho0))|((with_reducible refine gate_dst (N := 4) rfl ?_);(try (refine gate_guard (by rfl) ?_;dsimp only));refine box_event ?hg (N := 4) ?hd (cs := #[.slice none 0 0]) (t := 24) ?hr ?_;(case hd => rfl);(case hg => rfl);(case hr => first|(go_simp;done)|(go_simp;rfl));intro gb213 hg w29 hbox hb;have n0_ := Aside0.mk (Kd.R_below (by (with_reducible repeat first|apply rA|apply rN|apply rD);exact HO191.out) hb);have n1_ := Aside0.mk (Kd.R_below (by (with_reducible repeat first|apply rA|apply rN|apply rD);exact HO194.out) hb);have n2_ := Aside0.mk (Kd.N_below (Kd.N_elderB (by (with_reducible repeat first|apply nA|apply nN|apply nD);exact HO197.out) gb213 (Nat.le_of_eq hg.symm)) hb);have n3_ := Aside0.mk (Kd.R_below (by (with_reducible repeat first|apply rA|apply rN|apply rD);exact HO201.out) hb);have n4_ := Aside0.mk (Kd.R_below (by (with_reducible repeat first|apply rA|apply rN|apply rD);exact HO204.out) hb);have n5_ := Aside0.mk (Kd.V_below (Kd.V_elderB (by (with_reducible repeat (first|apply Kd.V_alloc|apply Kd.V_drewN|apply Kd.V_drew));exact HO210.out) gb213 (Nat.le_of_eq hg.symm)) hb);have n6_ := Aside0.mk (blk_below (g := gb198) (o := .cells #[.slice Ao18 t195.length co18] 24 (0, 0)) (by (with_reducible repeat first|apply bN|apply bD|apply bA);exact BK198.out) hb);have n7_ := Aside0.mk (blk_below (g := gb207) (o := .cells #[.int .i64 t205, .int .i64 t206] 27 (0, 0)) (by (with_reducible repeat first|apply bN|apply bD|apply bA);exact BK207.out) hb);have n8_ := Aside0.mk (below_step (by repeat (first|(with_reducible first|exact HB.out|apply eA|apply eN|apply eD|refine below_set ?_ GE198.out|refine below_set ?_ GE207.out)|exact HB.out)) hb);have n9_ := Aside0.mk (hbox);have n10_ := Aside0.mk ((by rw [hg];exact (below_size (by repeat (first|(with_reducible first|exact HB.out|apply eA|apply eN|apply eD|refine below_set ?_ GE198.out|refine below_set ?_ GE207.out)|exact HB.out))) : w.heap.size ≤ gb213));have n11_ := Aside0.mk ((by rw [hg];exact (below_size (by repeat (first|(with_reducible first|exact HB.out|apply eA|apply eN|apply eD|refine below_set ?_ GE198.out|refine below_set ?_ GE207.out)|exact HB.out))) : w.heap.size ≤ gb213));have n12_ := Aside0.mk ((by rw [hg];exact Nat.ne_of_lt (blk_lt (g := gb198) (o := .cells #[.slice Ao18 t195.length co18] 24 (0, 0)) (by (with_reducible repeat first|apply bN|apply bD|apply bA);exact BK198.out)) : gb198 ≠ gb213));have n13_ := Aside0.mk ((by rw [hg];exact Nat.ne_of_gt (blk_lt (g := gb198) (o := .cells #[.slice Ao18 t195.length co18] 24 (0, 0)) (by (with_reducible repeat first|apply bN|apply bD|apply bA);exact BK198.out)) : gb213 ≠ gb198));have n14_ := Aside0.mk ((by rw [hg];exact Nat.ne_of_lt (blk_lt (g := gb207) (o := .cells #[.int .i64 t205, .int .i64 t206] 27 (0, 0)) (by (with_reducible repeat first|apply bN|apply bD|apply bA);exact BK207.out)) : gb207 ≠ gb213));have n15_ := Aside0.mk ((by rw [hg];exact Nat.ne_of_gt (blk_lt (g := gb207) (o := .cells #[.int .i64 t205, .int .i64 t206] 27 (0, 0)) (by (with_reducible repeat first|apply bN|apply bD|apply bA);exact BK207.out)) : gb213 ≠ gb207));clear HO191;clear HO194;clear HO197;clear HO201;clear HO204;clear HO210;clear BK198;clear BK207;clear HB;have HO191 := n0_;have HO194 := n1_;have HO197 := n2_;have HO201 := n3_;have HO204 := n4_;have HO210 := n5_;have BK198 := n6_;have BK207 := n7_;have HB := n8_;have BK213 := n9_;have GW213 := n10_;have GE213 := n11_;have NB198_213 := n12_;have NB213_198 := n13_;have NB207_213 := n14_;have NB213_207 := n15_;clear n0_ n1_ n2_ n3_ n4_ n5_ n6_ n7_ n8_ n9_ n10_ n11_ n12_ n13_ n14_ n15_;clear hb hbox hg)|((with_reducible refine gate_dst (N := 5) rfl ?_);(try (refine gate_guard (by rfl) ?_;dsimp only));refine box_event ?hg (N := 5) ?hd (cs := #[.int .i64 0, .int .i64 0]) (t := 27) ?hr ?_;(case hd => rfl);(case hg => rfl);(case hr => first|(go_simp;done)|(go_simp;rfl));intro gb214 hg w30 hbox hb;have n0_ := Aside0.mk (Kd.R_below (by (with_reducible repeat first|apply rA|apply rN|apply rD);exact HO191.out) hb);have n1_ := Aside0.mk (Kd.R_below (by (with_reducible repeat first|apply rA|apply rN|apply rD);exact HO194.out) hb);have n2_ := Aside0.mk (Kd.N_below (Kd.N_elderB (by (with_reducible repeat first|apply nA|apply nN|apply nD);exact HO197.out) gb214 (Nat.le_of_eq hg.symm)) hb);have n3_ := Aside0.mk (Kd.R_below (by (with_reducible repeat first|apply rA|apply rN|apply rD);exact HO201.out) hb);have n4_ := Aside0.mk (Kd.R_below (by (with_reducible repeat first|apply rA|apply rN|apply rD);exact HO204.out) hb);have n5_ := Aside0.mk (Kd.V_below (Kd.V_elderB (by (with_reducible repeat (first|apply Kd.V_alloc|apply Kd.V_drewN|apply Kd.V_drew));exact HO210.out) gb214 (Nat.le_of_eq hg.symm)) hb);have n6_ := Aside0.mk (blk_below (g := gb198) (o := .cells #[.slice Ao18 t195.length co18] 24 (0, 0)) (by (with_reducible repeat first|apply bN|apply bD|apply bA);exact BK198.out) hb);have n7_ := Aside0.mk (blk_below (g := gb207) (o := .cells #[.int .i64 t205, .int .i64 t206] 27 (0, 0)) (by (with_reducible repeat first|apply bN|apply bD|apply bA);exact BK207.out) hb);have n8_ := Aside0.mk (blk_below (g := gb213) (o := .cells #[.slice none 0 0] 24 (0, 0)) (by (with_reducible repeat first|apply bN|apply bD|apply bA);exact BK213.out) hb);have n9_ := Aside0.mk (below_step (by repeat (first|(with_reducible first|exact HB.out|apply eA|apply eN|apply eD|refine below_set ?_ GE198.out|refine below_set ?_ GE207.out|refine below_set ?_ GE213.out)|exact HB.out)) hb);have n10_ := Aside0.mk (hbox);have n11_ := Aside0.mk ((by rw [hg];exact (below_size (by repeat (first|(with_reducible first|exact HB.out|apply eA|apply eN|apply eD|refine below_set ?_ GE198.out|refine below_set ?_ GE207.out|refine below_set ?_ GE213.out)|exact HB.out))) : w.heap.size ≤ gb214));have n12_ := Aside0.mk ((by rw [hg];exact (below_size (by repeat (first|(with_reducible first|exact HB.out|apply eA|apply eN|apply eD|refine below_set ?_ GE198.out|refine below_set ?_ GE207.out|refine below_set ?_ GE213.out)|exact HB.out))) : w.heap.size ≤ gb214));have n13_ := Aside0.mk ((by rw [hg];exact Nat.ne_of_lt (blk_lt (g := gb198) (o := .cells #[.slice Ao18 t195.length co18] 24 (0, 0)) (by (with_reducible repeat first|apply bN|apply bD|apply bA);exact BK198.out)) : gb198 ≠ gb214));have n14_ := Aside0.mk ((by rw [hg];exact Nat.ne_of_gt (blk_lt (g := gb198) (o := .cells #[.slice Ao18 t195.length co18] 24 (0, 0)) (by (with_reducible repeat first|apply bN|apply bD|apply bA);exact BK198.out)) : gb214 ≠ gb198));have n15_ := Aside0.mk ((by rw [hg];exact Nat.ne_of_lt (blk_lt (g := gb207) (o := .cells #[.int .i64 t205, .int .i64 t206] 27 (0, 0)) (by (with_reducible repeat first|apply bN|apply bD|apply bA);exact BK207.out)) : gb207 ≠ gb214));have n16_ := Aside0.mk ((by rw [hg];exact Nat.ne_of_gt (blk_lt (g := gb207) (o := .cells #[.int .i64 t205, .int .i64 t206] 27 (0, 0)) (by (with_reducible repeat first|apply bN|apply bD|apply bA);exact BK207.out)) : gb214 ≠ gb207));have n17_ := Aside0.mk ((by rw [hg];exact Nat.ne_of_lt (blk_lt (g := gb213) (o := .cells #[.slice none 0 0] 24 (0, 0)) (by (with_reducible repeat first|apply bN|apply bD|apply bA);exact BK213.out)) : gb213 ≠ gb214));have n18_ := Aside0.mk ((by rw [hg];exact Nat.ne_of_gt (blk_lt (g := gb213) (o := .cells #[.slice none 0 0] 24 (0, 0)) (by (with_reducible repeat first|apply bN|apply bD|apply bA);exact BK213.out)) : gb214 ≠ gb213));clear HO191;clear HO194;clear HO197;clear HO201;clear HO204;clear HO210;clear BK198;clear BK207;clear BK213;clear HB;have HO191 := n0_;have HO194 := n1_;have HO197 := n2_;have HO201 := n3_;have HO204 := n4_;have HO210 := n5_;have BK198 := n6_;have BK207 := n7_;have BK213 := n8_;have HB := n9_;have BK214 := n10_;have GW214 := n11_;have GE214 := n12_;have NB198_214 := n13_;have NB214_198 := n14_;have NB207_214 := n15_;have NB214_207 := n16_;have NB213_214 := n17_;have NB214_213 := n18_;clear n0_ n1_ n2_ n3_ n4_ n5_ n6_ n7_ n8_ n9_ n10_ n11_ n12_ n13_ n14_ n15_ n16_ n17_ n18_;clear hb hbox hg;obtain ⟨Ao31, co31, eo31⟩ := Kd.V_slice HO210.out;subst eo31;have hnb32 := NB213_198.out;have hnc32 := NB198_213.out;have hnb33 := NB213_207.out;have hnc33 := NB207_213.out;have hnb34 := NB213_214.out;have hnc34 := NB214_213.out;have hcz35_0 : w30.cell? ⟨gb213, 0, none⟩ = some (.slice none 0 0) := (blk_cell BK213.out 0).trans rfl;have hfz35_0 := blk_frozen BK213.out 0;have hnb36 := NB214_198.out;have hnc36 := NB198_214.out;have hnb37 := NB214_207.out;have hnc37 := NB207_214.out;have hcz38_0 : w30.cell? ⟨gb214, 0, none⟩ = some (.int .i64 0) := (blk_cell BK214.out 0).trans rfl;have hcz38_1 : w30.cell? ⟨gb214, 1, none⟩ = some (.int .i64 0) := (blk_cell BK214.out 1).trans rfl;have hfz38_0 := blk_frozen BK214.out 0;have hfz38_1 := blk_frozen BK214.out 1;obtain ⟨Ao39, co39, eo39⟩ := Kd.R_slice HO204.out;subst eo39))
        have n0_ : Aside0 (Kd.R Kd.string 9 (((w30.setCell ⟨gb213, 0, none⟩ (.slice Ao31 t208.length co31)).setCell ⟨gb214, 0, none⟩ (.int .i64 t211)).setCell ⟨gb214, 1, none⟩ (.int .i64 t212)) w.heap.size (fun k_ => some k_ ≠ (.slice Ao15 y192.length co15 : Value).ownBlock ∧ some k_ ≠ (.slice Ao22 y199.length co22 : Value).ownBlock ∧ some k_ ≠ (.slice Ao39 t202.length co39 : Value).ownBlock) (.slice Ao14 y189.length co14) y189) := ⟨by (with_reducible repeat first|apply rA|apply rN|apply rD);exact Kd.R_mono (Kd.R_far (p := ⟨gb214, 1, none⟩) (Kd.R_far (p := ⟨gb214, 0, none⟩) (Kd.R_far (p := ⟨gb213, 0, none⟩) (Kd.R_types (Kd.R_types HO191.out BK213.out (by decide)) BK214.out (by decide)) (fun _ hk => hk.1.2) (.slice Ao31 t208.length co31)) (fun _ hk => hk.2) (.int .i64 t211)) (fun _ hk => hk.2) (.int .i64 t212)) (fun _ hk => ⟨hk.1.1.1.1.2, ⟨hk.1.1.1.2, hk.1.1.2⟩⟩)⟩
        have n1_ : Aside0 (Kd.R Kd.string 9 (((w30.setCell ⟨gb213, 0, none⟩ (.slice Ao31 t208.length co31)).setCell ⟨gb214, 0, none⟩ (.int .i64 t211)).setCell ⟨gb214, 1, none⟩ (.int .i64 t212)) w.heap.size (fun k_ => some k_ ≠ (.slice Ao14 y189.length co14 : Value).ownBlock ∧ some k_ ≠ (.slice Ao22 y199.length co22 : Value).ownBlock ∧ some k_ ≠ (.slice Ao39 t202.length co39 : Value).ownBlock) (.slice Ao15 y192.length co15) y192) := ⟨by (with_reducible repeat first|apply rA|apply rN|apply rD);exact Kd.R_mono (Kd.R_far (p := ⟨gb214, 1, none⟩) (Kd.R_far (p := ⟨gb214, 0, none⟩) (Kd.R_far (p := ⟨gb213, 0, none⟩) (Kd.R_types (Kd.R_types HO194.out BK213.out (by decide)) BK214.out (by decide)) (fun _ hk => hk.1.2) (.slice Ao31 t208.length co31)) (fun _ hk => hk.2) (.int .i64 t211)) (fun _ hk => hk.2) (.int .i64 t212)) (fun _ hk => ⟨hk.1.1.1.1.2, ⟨hk.1.1.1.2, hk.1.1.2⟩⟩)⟩
        have n2_ : Aside0 (Kd.N k47 47 (((w30.setCell ⟨gb213, 0, none⟩ (.slice Ao31 t208.length co31)).setCell ⟨gb214, 0, none⟩ (.int .i64 t211)).setCell ⟨gb214, 1, none⟩ (.int .i64 t212)) w.heap.size (fun k_ => some k_ ≠ (.slice Ao22 y199.length co22 : Value).ownBlock ∧ some k_ ≠ (.slice Ao39 t202.length co39 : Value).ownBlock ∧ k_ ≠ gb198 ∧ k_ ≠ gb207 ∧ k_ ≠ gb213 ∧ k_ ≠ gb214) (.slice Ao18 t195.length co18) t195) := ⟨by (with_reducible repeat first|apply nA|apply nN|apply nD);exact Kd.N_mono (Kd.N_far (p := ⟨gb214, 1, none⟩) (Kd.N_far (p := ⟨gb214, 0, none⟩) (Kd.N_far (p := ⟨gb213, 0, none⟩) (Kd.N_mono (Kd.N_mono HO197.out (fun k_ hk => (⟨hk, hk.1.2⟩ : _ ∧ k_ ≠ gb213))) (fun k_ hk => (⟨hk, hk.1.2⟩ : _ ∧ k_ ≠ gb214))) (fun _ hk => hk.1.2) (.slice Ao31 t208.length co31)) (fun _ hk => hk.2) (.int .i64 t211)) (fun _ hk => hk.2) (.int .i64 t212)) (fun _ hk => ⟨hk.1.1.1.1.1.1.2, ⟨hk.1.1.1.1.1.2, ⟨hk.1.1.1.1.1.1.1.2, ⟨hk.1.1.1.1.2, ⟨hk.1.1.1.2, hk.1.1.2⟩⟩⟩⟩⟩)⟩
        have n3_ : Aside0 (Kd.R Kd.string 9 (((w30.setCell ⟨gb213, 0, none⟩ (.slice Ao31 t208.length co31)).setCell ⟨gb214, 0, none⟩ (.int .i64 t211)).setCell ⟨gb214, 1, none⟩ (.int .i64 t212)) w.heap.size (fun k_ => some k_ ≠ (.slice Ao14 y189.length co14 : Value).ownBlock ∧ some k_ ≠ (.slice Ao15 y192.length co15 : Value).ownBlock ∧ some k_ ≠ (.slice Ao39 t202.length co39 : Value).ownBlock) (.slice Ao22 y199.length co22) y199) := ⟨by (with_reducible repeat first|apply rA|apply rN|apply rD);exact Kd.R_mono (Kd.R_far (p := ⟨gb214, 1, none⟩) (Kd.R_far (p := ⟨gb214, 0, none⟩) (Kd.R_far (p := ⟨gb213, 0, none⟩) (Kd.R_types (Kd.R_types HO201.out BK213.out (by decide)) BK214.out (by decide)) (fun _ hk => hk.1.2) (.slice Ao31 t208.length co31)) (fun _ hk => hk.2) (.int .i64 t211)) (fun _ hk => hk.2) (.int .i64 t212)) (fun _ hk => ⟨hk.1.1.1.1.2, ⟨hk.1.1.1.2, hk.1.1.2⟩⟩)⟩
        have n4_ : Aside0 (Kd.R Kd.string 9 (((w30.setCell ⟨gb213, 0, none⟩ (.slice Ao31 t208.length co31)).setCell ⟨gb214, 0, none⟩ (.int .i64 t211)).setCell ⟨gb214, 1, none⟩ (.int .i64 t212)) w.heap.size (fun k_ => some k_ ≠ (.slice Ao14 y189.length co14 : Value).ownBlock ∧ some k_ ≠ (.slice Ao15 y192.length co15 : Value).ownBlock ∧ some k_ ≠ (.slice Ao22 y199.length co22 : Value).ownBlock) (.slice Ao39 t202.length co39) t202) := ⟨by (with_reducible repeat first|apply rA|apply rN|apply rD);exact Kd.R_mono (Kd.R_far (p := ⟨gb214, 1, none⟩) (Kd.R_far (p := ⟨gb214, 0, none⟩) (Kd.R_far (p := ⟨gb213, 0, none⟩) (Kd.R_types (Kd.R_types HO204.out BK213.out (by decide)) BK214.out (by decide)) (fun _ hk => hk.1.2) (.slice Ao31 t208.length co31)) (fun _ hk => hk.2) (.int .i64 t211)) (fun _ hk => hk.2) (.int .i64 t212)) (fun _ hk => ⟨hk.1.1.1.1.2, ⟨hk.1.1.1.2, hk.1.1.2⟩⟩)⟩
        have n5_ : Aside0 (Kd.V k47 47 (((w30.setCell ⟨gb213, 0, none⟩ (.slice Ao31 t208.length co31)).setCell ⟨gb214, 0, none⟩ (.int .i64 t211)).setCell ⟨gb214, 1, none⟩ (.int .i64 t212)) w.heap.size (fun k_ => some k_ ≠ (.slice Ao14 y189.length co14 : Value).ownBlock ∧ some k_ ≠ (.slice Ao15 y192.length co15 : Value).ownBlock ∧ some k_ ≠ (.slice Ao18 t195.length co18 : Value).ownBlock ∧ some k_ ≠ (.slice Ao22 y199.length co22 : Value).ownBlock ∧ some k_ ≠ (.slice Ao39 t202.length co39 : Value).ownBlock ∧ k_ ≠ gb198 ∧ k_ ≠ gb207 ∧ k_ ≠ gb213 ∧ k_ ≠ gb214) (.slice Ao31 t208.length co31) t208) := ⟨by (with_reducible repeat (first|apply Kd.V_alloc|apply Kd.V_drewN|apply Kd.V_drew));exact Kd.V_mono (Kd.V_far (p := ⟨gb214, 1, none⟩) (Kd.V_far (p := ⟨gb214, 0, none⟩) (Kd.V_far (p := ⟨gb213, 0, none⟩) (Kd.V_mono (Kd.V_mono HO210.out (fun k_ hk => (⟨hk, hk.1.2⟩ : _ ∧ k_ ≠ gb213))) (fun k_ hk => (⟨hk, hk.1.2⟩ : _ ∧ k_ ≠ gb214))) (fun _ hk => hk.1.2) (.slice Ao31 t208.length co31)) (fun _ hk => hk.2) (.int .i64 t211)) (fun _ hk => hk.2) (.int .i64 t212)) (fun _ hk => ⟨hk.1.1.1.1.1, ⟨hk.1.1.1.1.2.1, ⟨hk.1.1.1.1.2.2.1, ⟨hk.1.1.1.1.2.2.2.1, ⟨hk.1.1.1.1.2.2.2.2.1, ⟨hk.1.1.1.1.2.2.2.2.2.1, ⟨hk.1.1.1.1.2.2.2.2.2.2, ⟨hk.1.1.1.2, hk.1.1.2⟩⟩⟩⟩⟩⟩⟩⟩)⟩
        have n6_ : Aside0 ((((w30.setCell ⟨gb213, 0, none⟩ (.slice Ao31 t208.length co31)).setCell ⟨gb214, 0, none⟩ (.int .i64 t211)).setCell ⟨gb214, 1, none⟩ (.int .i64 t212)).heap[gb198]? = some (.cells #[.slice Ao18 t195.length co18] 24 (0, 0))) := ⟨by (with_reducible repeat first|apply bN|apply bD|apply bA);refine blk_far ?_ NB198_214.out _;(with_reducible repeat first|apply bN|apply bD|apply bA);refine blk_far ?_ NB198_214.out _;(with_reducible repeat first|apply bN|apply bD|apply bA);refine blk_far ?_ NB198_213.out _;(with_reducible repeat first|apply bN|apply bD|apply bA);exact BK198.out⟩
        have n7_ : Aside0 ((((w30.setCell ⟨gb213, 0, none⟩ (.slice Ao31 t208.length co31)).setCell ⟨gb214, 0, none⟩ (.int .i64 t211)).setCell ⟨gb214, 1, none⟩ (.int .i64 t212)).heap[gb207]? = some (.cells #[.int .i64 t205, .int .i64 t206] 27 (0, 0))) := ⟨by (with_reducible repeat first|apply bN|apply bD|apply bA);refine blk_far ?_ NB207_214.out _;(with_reducible repeat first|apply bN|apply bD|apply bA);refine blk_far ?_ NB207_214.out _;(with_reducible repeat first|apply bN|apply bD|apply bA);refine blk_far ?_ NB207_213.out _;(with_reducible repeat first|apply bN|apply bD|apply bA);exact BK207.out⟩
        have n8_ : Aside0 ((((w30.setCell ⟨gb213, 0, none⟩ (.slice Ao31 t208.length co31)).setCell ⟨gb214, 0, none⟩ (.int .i64 t211)).setCell ⟨gb214, 1, none⟩ (.int .i64 t212)).heap[gb213]? = some (.cells #[.slice Ao31 t208.length co31] 24 (0, 0))) := ⟨by (with_reducible repeat first|apply bN|apply bD|apply bA);refine blk_far ?_ NB213_214.out _;(with_reducible repeat first|apply bN|apply bD|apply bA);refine blk_far ?_ NB213_214.out _;(with_reducible repeat first|apply bN|apply bD|apply bA);refine blk_put (cs := #[.slice none 0 0]) ?_ 0 _ rfl;(with_reducible repeat first|apply bN|apply bD|apply bA);exact BK213.out⟩
        have n9_ : Aside0 ((((w30.setCell ⟨gb213, 0, none⟩ (.slice Ao31 t208.length co31)).setCell ⟨gb214, 0, none⟩ (.int .i64 t211)).setCell ⟨gb214, 1, none⟩ (.int .i64 t212)).heap[gb214]? = some (.cells #[.int .i64 t211, .int .i64 t212] 27 (0, 0))) := ⟨by (with_reducible repeat first|apply bN|apply bD|apply bA);refine blk_put (cs := #[.int .i64 t211, .int .i64 0]) ?_ 1 _ rfl;(with_reducible repeat first|apply bN|apply bD|apply bA);refine blk_put (cs := #[.int .i64 0, .int .i64 0]) ?_ 0 _ rfl;(with_reducible repeat first|apply bN|apply bD|apply bA);refine blk_far ?_ NB214_213.out _;(with_reducible repeat first|apply bN|apply bD|apply bA);exact BK214.out⟩
        have n10_ : Aside0 (Below w.heap.size w (((w30.setCell ⟨gb213, 0, none⟩ (.slice Ao31 t208.length co31)).setCell ⟨gb214, 0, none⟩ (.int .i64 t211)).setCell ⟨gb214, 1, none⟩ (.int .i64 t212))) := ⟨by repeat (first|(with_reducible first|exact HB.out|apply eA|apply eN|apply eD|refine below_set ?_ GE198.out|refine below_set ?_ GE207.out|refine below_set ?_ GE213.out|refine below_set ?_ GE214.out)|exact HB.out)⟩
        (try clear HO191)
        (try clear HO194)
        (try clear HO197)
        (try clear HO201)
        (try clear HO204)
        (try clear HO210)
        (try clear BK198)
        (try clear BK207)
        (try clear BK213)
        (try clear BK214)
        (try clear HB)
        generalize (((w30.setCell ⟨gb213, 0, none⟩ (.slice Ao31 t208.length co31)).setCell ⟨gb214, 0, none⟩ (.int .i64 t211)).setCell ⟨gb214, 1, none⟩ (.int .i64 t212)) = w40 at n0_ n1_ n2_ n3_ n4_ n5_ n6_ n7_ n8_ n9_ n10_ ⊢
        have HO191 := n0_
        have HO194 := n1_
        have HO197 := n2_
        have HO201 := n3_
        have HO204 := n4_
        have HO210 := n5_
        have BK198 := n6_
        have BK207 := n7_
        have BK213 := n8_
        have BK214 := n9_
        have HB := n10_
        clear n0_ n1_ n2_ n3_ n4_ n5_ n6_ n7_ n8_ n9_ n10_
        have n0_ := Aside0.mk (Kd.R_drew HO191.out)
        have n1_ := Aside0.mk (Kd.R_drew HO194.out)
        have n2_ := Aside0.mk (Kd.N_drew HO197.out)
        have n3_ := Aside0.mk (Kd.R_drew HO201.out)
        have n4_ := Aside0.mk (Kd.R_drew HO204.out)
        have n5_ := Aside0.mk (Kd.V_drew HO210.out)
        have n6_ := Aside0.mk (blk_drew BK198.out)
        have n7_ := Aside0.mk (blk_drew BK207.out)
        have n8_ := Aside0.mk (blk_drew BK213.out)
        have n9_ := Aside0.mk (blk_drew BK214.out)
        have n10_ := Aside0.mk (below_drew1 HB.out)
        clear HO191
        clear HO194
        clear HO197
        clear HO201
        clear HO204
        clear HO210
        clear BK198
        clear BK207
        clear BK213
        clear BK214
        clear HB
        have HO191 := n0_
        have HO194 := n1_
        have HO197 := n2_
        have HO201 := n3_
        have HO204 := n4_
        have HO210 := n5_
        have BK198 := n6_
        have BK207 := n7_
        have BK213 := n8_
        have BK214 := n9_
        have HB := n10_
        clear n0_ n1_ n2_ n3_ n4_ n5_ n6_ n7_ n8_ n9_ n10_
        refine start_ (n := 21) (S := fun w' => w'.cell? ⟨gb207, 0, none⟩ = some (.int .i64 t205) ∧ w'.cell? ⟨gb207, 1, none⟩ = some (.int .i64 t206) ∧ w'.cell? ⟨gb214, 0, none⟩ = some (.int .i64 t211) ∧ w'.cell? ⟨gb214, 1, none⟩ = some (.int .i64 t212) ∧ w'.cell? ⟨gb213, 0, none⟩ = some (.slice Ao31 t208.length co31)) (ds := []) #[false, false, false, false, false, false, false, false, false, false, false, false, false, false, false, false, false, false, false, false, false] (by kernel_rfl) rfl rfl ⟨(blk_cell BK207.out 0).trans rfl, (blk_cell BK207.out 1).trans rfl, (blk_cell BK214.out 0).trans rfl, (blk_cell BK214.out 1).trans rfl, (blk_cell BK213.out 0).trans rfl⟩ (fun hHeld => ?_);refine with_tabW changeforgelaw1_replaced.tab4 changeforgelaw1_replaced.bits4 (fun HT_ HW_ => ?_)
        generalize w40.drew = w41 at HO191 HO194 HO197 HO201 HO204 HO210 BK198 BK207 BK213 BK214 HB hHeld ⊢
        refine pure_ (i := 0) (N := some 20) (v := ?_) (a' := ?_) #[true, false, false, false, false, false, false, false, false, false, false, false, false, false, false, false, false, false, false, false, false] rfl rfl (any_of HT_.out (by kernel_rfl)) (fun _ _ _ h => h) (Or.inl ⟨by rfl, ?_⟩) ?_ ?_
        rotate_left
        · intro w'
          go_simp
          with_reducible rfl
        rotate_left
        · simp only [Act.put, sA, sB, sC, i64_w, i32_w]
          rfl
        refine take_ (i := 1) (N := some 21) (v := ?_) (a' := ?_) #[true, true, false, false, false, false, false, false, false, false, false, false, false, false, false, false, false, false, false, false, false] rfl rfl (take_ofW HT_.out HW_.out (by kernel_rfl)) (fun _ _ _ h => h) (Or.inl ⟨by rfl, ?_⟩) hHeld ?_ ?_
        rotate_left
        · rintro w' ⟨s0, s1, s2, s3, s4⟩
          go_simp
          with_reducible rfl
        rotate_left
        · simp only [Act.put, sA, sB, sC, i64_w, i32_w]
          rfl
        refine pure_ (i := 2) (N := some 22) (v := ?_) (a' := ?_) #[true, true, true, false, false, false, false, false, false, false, false, false, false, false, false, false, false, false, false, false, false] rfl rfl (any_of HT_.out (by kernel_rfl)) (fun _ _ _ h => h) (Or.inl ⟨by rfl, ?_⟩) ?_ ?_
        rotate_left
        · intro w'
          go_simp
          with_reducible rfl
        rotate_left
        · simp only [Act.put, sA, sB, sC, i64_w, i32_w]
          rfl
        refine pure_ (i := 3) (N := some 23) (v := ?_) (a' := ?_) #[true, true, true, true, false, false, false, false, false, false, false, false, false, false, false, false, false, false, false, false, false] rfl rfl (any_of HT_.out (by kernel_rfl)) (fun _ _ _ h => h) (Or.inl ⟨by rfl, ?_⟩) ?_ ?_
        rotate_left
        · intro w'
          go_simp
          with_reducible rfl
        rotate_left
        · simp only [Act.put, sA, sB, sC, i64_w, i32_w]
          rfl
        refine pure_ (i := 4) (N := some 24) (v := ?_) (a' := ?_) #[true, true, true, true, true, false, false, false, false, false, false, false, false, false, false, false, false, false, false, false, false] rfl rfl (any_of HT_.out (by kernel_rfl)) (fun _ _ _ h => h) (Or.inl ⟨by rfl, ?_⟩) ?_ ?_
        rotate_left
        · intro w'
          go_simp
          with_reducible rfl
        rotate_left
        · simp only [Act.put, sA, sB, sC, i64_w, i32_w]
          rfl
        refine take_ (i := 5) (N := some 25) (v := ?_) (a' := ?_) #[true, true, true, true, true, true, false, false, false, false, false, false, false, false, false, false, false, false, false, false, false] rfl rfl (take_ofW HT_.out HW_.out (by kernel_rfl)) (fun _ _ _ h => h) (Or.inl ⟨by rfl, ?_⟩) hHeld ?_ ?_
        rotate_left
        · rintro w' ⟨s0, s1, s2, s3, s4⟩
          go_simp
          with_reducible rfl
        rotate_left
        · simp only [Act.put, sA, sB, sC, i64_w, i32_w]
          rfl
        refine pure_ (i := 6) (N := some 26) (v := ?_) (a' := ?_) #[true, true, true, true, true, true, true, false, false, false, false, false, false, false, false, false, false, false, false, false, false] rfl rfl (any_of HT_.out (by kernel_rfl)) (fun _ _ _ h => h) (Or.inl ⟨by rfl, ?_⟩) ?_ ?_
        rotate_left
        · intro w'
          go_simp
          with_reducible rfl
        rotate_left
        · simp only [Act.put, sA, sB, sC, i64_w, i32_w]
          rfl
        refine pure_ (i := 7) (N := some 27) (v := ?_) (a' := ?_) #[true, true, true, true, true, true, true, true, false, false, false, false, false, false, false, false, false, false, false, false, false] rfl rfl (any_of HT_.out (by kernel_rfl)) (fun _ _ _ h => h) (Or.inl ⟨by rfl, ?_⟩) ?_ ?_
        rotate_left
        · intro w'
          go_simp
          with_reducible rfl
        rotate_left
        · simp only [Act.put, sA, sB, sC, i64_w, i32_w]
          rfl
        refine pure_ (i := 8) (N := some 28) (v := ?_) (a' := ?_) #[true, true, true, true, true, true, true, true, true, false, false, false, false, false, false, false, false, false, false, false, false] rfl rfl (any_of HT_.out (by kernel_rfl)) (fun _ _ _ h => h) (Or.inl ⟨by rfl, ?_⟩) ?_ ?_
        rotate_left
        · intro w'
          go_simp
          with_reducible rfl
        rotate_left
        · simp only [Act.put, sA, sB, sC, i64_w, i32_w]
          rfl
        refine pure_ (i := 9) (N := some 29) (v := ?_) (a' := ?_) #[true, true, true, true, true, true, true, true, true, true, false, false, false, false, false, false, false, false, false, false, false] rfl rfl (any_of HT_.out (by kernel_rfl)) (fun _ _ _ h => h) (Or.inl ⟨by rfl, ?_⟩) ?_ ?_
        rotate_left
        · intro w'
          go_simp
          with_reducible rfl
        rotate_left
        · simp only [Act.put, sA, sB, sC, i64_w, i32_w]
          rfl
        refine one_ (i := 10) (N := some 30) #[true, true, true, true, true, true, true, true, true, true, true, false, false, false, false, false, false, false, false, false, false] rfl rfl (one_of HT_.out (by kernel_rfl)) (by decide) (fun K hK => ?_)
        refine Kd.R_lit_step Kd.string _ 9 ?hg (N := 30) ?hd (xs := ([(⟨#[97]⟩ : ByteArray), (⟨#[99]⟩ : ByteArray), (⟨#[100]⟩ : ByteArray)] : List ByteArray)) (inner := [.string (⟨#[97]⟩ : ByteArray), .string (⟨#[99]⟩ : ByteArray), .string (⟨#[100]⟩ : ByteArray)]) (ok := fun _ => True) (okp := fun _ => True) ?hr ?hp (fun _ hk => hk) trivial (Below.refl _ _) (Nat.le_refl _) (by simp) ?_;(case hd => rfl);(case hg => rfl);(case hr => first|(go_simp;done)|(go_simp;rfl));(case hp => exact (Reps.one (show Kd.M Kd.string _ _ _ (⟨#[97]⟩ : ByteArray) [.string (⟨#[97]⟩ : ByteArray)] from rfl) (Reps.one (show Kd.M Kd.string _ _ _ (⟨#[99]⟩ : ByteArray) [.string (⟨#[99]⟩ : ByteArray)] from rfl) (Reps.one (show Kd.M Kd.string _ _ _ (⟨#[100]⟩ : ByteArray) [.string (⟨#[100]⟩ : ByteArray)] from rfl) (Reps.none _ _)))))
        intro v216 w42 ho43 hb hg_ hnew_
        clear hg_ hnew_
        (first|rw [← Ny215.out] at ho43|(simp only [Int.reduceToNat] at ho43;rw [← Ny215.out] at ho43))
        have n0_ := Aside0.mk (Kd.R_elder' (by (with_reducible repeat first|apply rA|apply rN|apply rD);exact HO191.out) (Kd.R_base ho43) hb)
        have n1_ := Aside0.mk (Kd.R_elder' (by (with_reducible repeat first|apply rA|apply rN|apply rD);exact HO194.out) (Kd.R_base ho43) hb)
        have n2_ := Aside0.mk (Kd.N_elder' (by (with_reducible repeat first|apply nA|apply nN|apply nD);exact HO197.out) (Kd.R_base ho43) hb)
        have n3_ := Aside0.mk (Kd.R_elder' (by (with_reducible repeat first|apply rA|apply rN|apply rD);exact HO201.out) (Kd.R_base ho43) hb)
        have n4_ := Aside0.mk (Kd.R_elder' (by (with_reducible repeat first|apply rA|apply rN|apply rD);exact HO204.out) (Kd.R_base ho43) hb)
        have n5_ := Aside0.mk (Kd.V_elder' (by (with_reducible repeat (first|apply Kd.V_alloc|apply Kd.V_drewN|apply Kd.V_drew));exact HO210.out) (Kd.R_base ho43) hb)
        have n6_ := Aside0.mk (Kd.R_lower (Kd.R_new' (Kd.R_new' (Kd.R_new' (Kd.R_new' ho43 (Kd.R_lt (by (with_reducible repeat first|apply rA|apply rN|apply rD);exact HO191.out))) (Kd.R_lt (by (with_reducible repeat first|apply rA|apply rN|apply rD);exact HO194.out))) (Kd.R_lt (by (with_reducible repeat first|apply rA|apply rN|apply rD);exact HO201.out))) (Kd.R_lt (by (with_reducible repeat first|apply rA|apply rN|apply rD);exact HO204.out))) (below_size (by repeat (first|(with_reducible first|exact HB.out|apply eA|apply eN|apply eD|refine below_set ?_ GE198.out|refine below_set ?_ GE207.out|refine below_set ?_ GE213.out|refine below_set ?_ GE214.out)|exact HB.out))))
        have n7_ := Aside0.mk (blk_below (g := gb198) (o := .cells #[.slice Ao18 t195.length co18] 24 (0, 0)) (by (with_reducible repeat first|apply bN|apply bD|apply bA);exact BK198.out) hb)
        have n8_ := Aside0.mk (blk_below (g := gb207) (o := .cells #[.int .i64 t205, .int .i64 t206] 27 (0, 0)) (by (with_reducible repeat first|apply bN|apply bD|apply bA);exact BK207.out) hb)
        have n9_ := Aside0.mk (blk_below (g := gb213) (o := .cells #[.slice Ao31 t208.length co31] 24 (0, 0)) (by (with_reducible repeat first|apply bN|apply bD|apply bA);exact BK213.out) hb)
        have n10_ := Aside0.mk (blk_below (g := gb214) (o := .cells #[.int .i64 t211, .int .i64 t212] 27 (0, 0)) (by (with_reducible repeat first|apply bN|apply bD|apply bA);exact BK214.out) hb)
        have n11_ := Aside0.mk (below_step (by repeat (first|(with_reducible first|exact HB.out|apply eA|apply eN|apply eD|refine below_set ?_ GE198.out|refine below_set ?_ GE207.out|refine below_set ?_ GE213.out|refine below_set ?_ GE214.out)|exact HB.out)) hb)
        clear HO191
        clear HO194
        clear HO197
        clear HO201
        clear HO204
        clear HO210
        clear BK198
        clear BK207
        clear BK213
        clear BK214
        clear HB
        have HO191 := n0_
        have HO194 := n1_
        have HO197 := n2_
        have HO201 := n3_
        have HO204 := n4_
        have HO210 := n5_
        have HO217 := n6_
        have BK198 := n7_
        have BK207 := n8_
        have BK213 := n9_
        have BK214 := n10_
        have HB := n11_
        clear n0_ n1_ n2_ n3_ n4_ n5_ n6_ n7_ n8_ n9_ n10_ n11_
        clear hb ho43
        obtain ⟨Ao44, co44, eo44⟩ := Kd.R_slice HO217.out
        (first|subst eo44|(injection eo44 with f1_ f2_ f3_;have f4_ := f1_.symm;have f5_ := f3_.symm;clear f1_ f2_ f3_;subst f4_;subst f5_))
        refine hK.out _ _ ⟨(blk_cell BK207.out 0).trans rfl, (blk_cell BK207.out 1).trans rfl, (blk_cell BK214.out 0).trans rfl, (blk_cell BK214.out 1).trans rfl, (blk_cell BK213.out 0).trans rfl⟩ (fun hHeld => ?_)
        clear hK K
        refine norm_ (a' := ?_) ?_ ?_
        rotate_left
        · show Act.put _ (some 30) _ = _
          simp only [Act.put, sA, sB, sC, i64_w, i32_w]
          rfl
        refine one_ (i := 11) (N := some 31) #[true, true, true, true, true, true, true, true, true, true, true, true, false, false, false, false, false, false, false, false, false] rfl rfl (one_of HT_.out (by kernel_rfl)) (by decide) (fun K hK => ?_)
        refine goes_ Try.func21 (by kernel_rfl) rfl #[.slice Ao39 t202.length co39, .slice Ao44 y215.length co44] (by rfl) rfl rfl (by (try simp only [List.map_toArray, List.map_cons, List.map_nil]);first|done|rfl|(simp only [List.length_drop, List.length_take];rfl)) ?_
        with_reducible refine (changeforgeequal_Strings.calls _ _ t202 _ _ y215 true _ ?side1 ?side2 ?side3 ?side4 A6.out).mono ?_
        (case side1 => repeat (first|exact (Kd.R_reads' HO204.out).2.2|(with_reducible refine Kd.C_alloc ?_ _)|(with_reducible refine Kd.C_drewN ?_ _)|(with_reducible refine Kd.C_drew ?_)))
        (case side2 => exact (Kd.R_reads' HO204.out).2.1)
        (case side3 => repeat (first|exact (Kd.R_reads' HO217.out).2.2|(with_reducible refine Kd.C_alloc ?_ _)|(with_reducible refine Kd.C_drewN ?_ _)|(with_reducible refine Kd.C_drew ?_)))
        (case side4 => exact (Kd.R_reads' HO217.out).2.1)
        rintro e w' ⟨rfl, ⟨nd, rfl⟩⟩
        refine ⟨_, rfl, ?_⟩
        refine hK.out _ _ ⟨(blk_cell BK207.out 0).trans rfl, (blk_cell BK207.out 1).trans rfl, (blk_cell BK214.out 0).trans rfl, (blk_cell BK214.out 1).trans rfl, (blk_cell BK213.out 0).trans rfl⟩ (fun hHeld => ?_)
        clear hK K
        refine norm_ (a' := ?_) ?_ ?_
        rotate_left
        · show Act.put _ (some 31) _ = _
          simp only [Act.put, sA, sB, sC, i64_w, i32_w]
          rfl
        refine pure_ (i := 12) (N := some 32) (v := ?_) (a' := ?_) #[true, true, true, true, true, true, true, true, true, true, true, true, true, false, false, false, false, false, false, false, false] rfl rfl (any_of HT_.out (by kernel_rfl)) (fun _ _ _ h => h) (Or.inl ⟨by rfl, ?_⟩) ?_ ?_
        rotate_left
        · intro w'
          go_simp
          with_reducible rfl
        rotate_left
        · simp only [Act.put, sA, sB, sC, i64_w, i32_w]
          rfl
        refine pure_ (i := 13) (N := some 33) (v := ?_) (a' := ?_) #[true, true, true, true, true, true, true, true, true, true, true, true, true, true, false, false, false, false, false, false, false] rfl rfl (any_of HT_.out (by kernel_rfl)) (fun _ _ _ h => h) (Or.inl ⟨by rfl, ?_⟩) ?_ ?_
        rotate_left
        · intro w'
          go_simp
          with_reducible rfl
        rotate_left
        · simp only [Act.put, sA, sB, sC, i64_w, i32_w]
          rfl
        refine take_ (i := 14) (N := some 34) (v := ?_) (a' := ?_) #[true, true, true, true, true, true, true, true, true, true, true, true, true, true, true, false, false, false, false, false, false] rfl rfl (take_ofW HT_.out HW_.out (by kernel_rfl)) (fun _ _ _ h => h) (Or.inl ⟨by rfl, ?_⟩) hHeld ?_ ?_
        rotate_left
        · rintro w' ⟨s0, s1, s2, s3, s4⟩
          go_simp
          with_reducible rfl
        rotate_left
        · simp only [Act.put, sA, sB, sC, i64_w, i32_w]
          rfl
        refine join_ (σ := Value × Value) 4 #[true, true, true, true, true, true, true, true, true, true, true, true, true, true, true, true, true, false, false, false, false] (fun s_ => [(35, s_.1), (36, s_.2)]) (fun s_ w' => (w'.cell? ⟨gb207, 0, none⟩ = some (.int .i64 t205) ∧ w'.cell? ⟨gb207, 1, none⟩ = some (.int .i64 t206) ∧ w'.cell? ⟨gb214, 0, none⟩ = some (.int .i64 t211) ∧ w'.cell? ⟨gb214, 1, none⟩ = some (.int .i64 t212) ∧ w'.cell? ⟨gb213, 0, none⟩ = some (.slice Ao31 t208.length co31)) ∧ (Kd.R Kd.string 9 w' w.heap.size (fun k_ => some k_ ≠ (.slice Ao15 y192.length co15 : Value).ownBlock ∧ some k_ ≠ (.slice Ao22 y199.length co22 : Value).ownBlock ∧ some k_ ≠ (.slice Ao39 t202.length co39 : Value).ownBlock ∧ some k_ ≠ (.slice Ao44 y215.length co44 : Value).ownBlock ∧ some k_ ≠ (s_.1 : Value).ownBlock ∧ some k_ ≠ (s_.2 : Value).ownBlock) (.slice Ao14 y189.length co14) y189) ∧ (Kd.R Kd.string 9 w' w.heap.size (fun k_ => some k_ ≠ (.slice Ao14 y189.length co14 : Value).ownBlock ∧ some k_ ≠ (.slice Ao22 y199.length co22 : Value).ownBlock ∧ some k_ ≠ (.slice Ao39 t202.length co39 : Value).ownBlock ∧ some k_ ≠ (.slice Ao44 y215.length co44 : Value).ownBlock ∧ some k_ ≠ (s_.1 : Value).ownBlock ∧ some k_ ≠ (s_.2 : Value).ownBlock) (.slice Ao15 y192.length co15) y192) ∧ (Kd.N k47 47 w' w.heap.size (fun k_ => some k_ ≠ (.slice Ao22 y199.length co22 : Value).ownBlock ∧ some k_ ≠ (.slice Ao39 t202.length co39 : Value).ownBlock ∧ some k_ ≠ (.slice Ao44 y215.length co44 : Value).ownBlock ∧ some k_ ≠ (s_.1 : Value).ownBlock ∧ some k_ ≠ (s_.2 : Value).ownBlock ∧ k_ ≠ gb198 ∧ k_ ≠ gb207 ∧ k_ ≠ gb213 ∧ k_ ≠ gb214) (.slice Ao18 t195.length co18) t195) ∧ (Kd.R Kd.string 9 w' w.heap.size (fun k_ => some k_ ≠ (.slice Ao14 y189.length co14 : Value).ownBlock ∧ some k_ ≠ (.slice Ao15 y192.length co15 : Value).ownBlock ∧ some k_ ≠ (.slice Ao39 t202.length co39 : Value).ownBlock ∧ some k_ ≠ (.slice Ao44 y215.length co44 : Value).ownBlock ∧ some k_ ≠ (s_.1 : Value).ownBlock ∧ some k_ ≠ (s_.2 : Value).ownBlock) (.slice Ao22 y199.length co22) y199) ∧ (Kd.R Kd.string 9 w' w.heap.size (fun k_ => some k_ ≠ (.slice Ao14 y189.length co14 : Value).ownBlock ∧ some k_ ≠ (.slice Ao15 y192.length co15 : Value).ownBlock ∧ some k_ ≠ (.slice Ao22 y199.length co22 : Value).ownBlock ∧ some k_ ≠ (.slice Ao44 y215.length co44 : Value).ownBlock ∧ some k_ ≠ (s_.1 : Value).ownBlock ∧ some k_ ≠ (s_.2 : Value).ownBlock) (.slice Ao39 t202.length co39) t202) ∧ (Kd.V k47 47 w' w.heap.size (fun k_ => some k_ ≠ (.slice Ao14 y189.length co14 : Value).ownBlock ∧ some k_ ≠ (.slice Ao15 y192.length co15 : Value).ownBlock ∧ some k_ ≠ (.slice Ao18 t195.length co18 : Value).ownBlock ∧ some k_ ≠ (.slice Ao22 y199.length co22 : Value).ownBlock ∧ some k_ ≠ (.slice Ao39 t202.length co39 : Value).ownBlock ∧ some k_ ≠ (.slice Ao44 y215.length co44 : Value).ownBlock ∧ some k_ ≠ (s_.1 : Value).ownBlock ∧ some k_ ≠ (s_.2 : Value).ownBlock ∧ k_ ≠ gb198 ∧ k_ ≠ gb207 ∧ k_ ≠ gb213 ∧ k_ ≠ gb214) (.slice Ao31 t208.length co31) t208) ∧ (Kd.R Kd.string 9 w' w.heap.size (fun k_ => some k_ ≠ (.slice Ao14 y189.length co14 : Value).ownBlock ∧ some k_ ≠ (.slice Ao15 y192.length co15 : Value).ownBlock ∧ some k_ ≠ (.slice Ao22 y199.length co22 : Value).ownBlock ∧ some k_ ≠ (.slice Ao39 t202.length co39 : Value).ownBlock ∧ some k_ ≠ (s_.1 : Value).ownBlock ∧ some k_ ≠ (s_.2 : Value).ownBlock) (.slice Ao44 y215.length co44) y215) ∧ (Kd.R Kd.string 9 w' w.heap.size (fun k_ => some k_ ≠ (.slice Ao14 y189.length co14 : Value).ownBlock ∧ some k_ ≠ (.slice Ao15 y192.length co15 : Value).ownBlock ∧ some k_ ≠ (.slice Ao22 y199.length co22 : Value).ownBlock ∧ some k_ ≠ (.slice Ao39 t202.length co39 : Value).ownBlock ∧ some k_ ≠ (.slice Ao44 y215.length co44 : Value).ownBlock ∧ some k_ ≠ (s_.2 : Value).ownBlock) s_.1 y219) ∧ (Kd.R Kd.string 9 w' w.heap.size (fun k_ => some k_ ≠ (.slice Ao14 y189.length co14 : Value).ownBlock ∧ some k_ ≠ (.slice Ao15 y192.length co15 : Value).ownBlock ∧ some k_ ≠ (.slice Ao22 y199.length co22 : Value).ownBlock ∧ some k_ ≠ (.slice Ao39 t202.length co39 : Value).ownBlock ∧ some k_ ≠ (.slice Ao44 y215.length co44 : Value).ownBlock ∧ some k_ ≠ (s_.1 : Value).ownBlock) s_.2 y222) ∧ (w'.heap[gb198]? = some (.cells #[.slice Ao18 t195.length co18] 24 (0, 0))) ∧ (w'.heap[gb207]? = some (.cells #[.int .i64 t205, .int .i64 t206] 27 (0, 0))) ∧ (w'.heap[gb213]? = some (.cells #[.slice Ao31 t208.length co31] 24 (0, 0))) ∧ (w'.heap[gb214]? = some (.cells #[.int .i64 t211, .int .i64 t212] 27 (0, 0))) ∧ (Below w.heap.size w w')) ?_ ?_
        rotate_left
        · intro hCont
          refine two_ (i := 15) (j := 16) (Ni := some 35) (Nj := some 36) #[true, true, true, true, true, true, true, true, true, true, true, true, true, true, true, true, false, false, false, false, false] #[true, true, true, true, true, true, true, true, true, true, true, true, true, true, true, false, true, false, false, false, false] rfl rfl rfl rfl (two_of HT_.out (by kernel_rfl)) (by decide) (by decide) (fun K hK => ?_) (fun K hK => ?_)
          · skip
            refine Kd.R_lit_step Kd.string _ 9 ?hg (N := 35) ?hd (xs := ([(⟨#[99]⟩ : ByteArray), (⟨#[100]⟩ : ByteArray)] : List ByteArray)) (inner := [.string (⟨#[99]⟩ : ByteArray), .string (⟨#[100]⟩ : ByteArray)]) (ok := fun _ => True) (okp := fun _ => True) ?hr ?hp (fun _ hk => hk) trivial (Below.refl _ _) (Nat.le_refl _) (by simp) ?_;(case hd => rfl);(case hg => rfl);(case hr => first|(go_simp;done)|(go_simp;rfl));(case hp => exact (Reps.one (show Kd.M Kd.string _ _ _ (⟨#[99]⟩ : ByteArray) [.string (⟨#[99]⟩ : ByteArray)] from rfl) (Reps.one (show Kd.M Kd.string _ _ _ (⟨#[100]⟩ : ByteArray) [.string (⟨#[100]⟩ : ByteArray)] from rfl) (Reps.none _ _))))
            intro v220 w45 ho46 hb hg_ hnew_
            clear hg_ hnew_
            (first|rw [← Ny219.out] at ho46|(simp only [Int.reduceToNat] at ho46;rw [← Ny219.out] at ho46))
            have n0_ := Aside0.mk (Kd.R_elder' (by (with_reducible repeat first|apply rA|apply rN|apply rD);exact HO191.out) (Kd.R_base ho46) hb)
            have n1_ := Aside0.mk (Kd.R_elder' (by (with_reducible repeat first|apply rA|apply rN|apply rD);exact HO194.out) (Kd.R_base ho46) hb)
            have n2_ := Aside0.mk (Kd.N_elder' (by (with_reducible repeat first|apply nA|apply nN|apply nD);exact HO197.out) (Kd.R_base ho46) hb)
            have n3_ := Aside0.mk (Kd.R_elder' (by (with_reducible repeat first|apply rA|apply rN|apply rD);exact HO201.out) (Kd.R_base ho46) hb)
            have n4_ := Aside0.mk (Kd.R_elder' (by (with_reducible repeat first|apply rA|apply rN|apply rD);exact HO204.out) (Kd.R_base ho46) hb)
            have n5_ := Aside0.mk (Kd.V_elder' (by (with_reducible repeat (first|apply Kd.V_alloc|apply Kd.V_drewN|apply Kd.V_drew));exact HO210.out) (Kd.R_base ho46) hb)
            have n6_ := Aside0.mk (Kd.R_elder' (by (with_reducible repeat first|apply rA|apply rN|apply rD);exact HO217.out) (Kd.R_base ho46) hb)
            have n7_ := Aside0.mk (Kd.R_lower (Kd.R_new' (Kd.R_new' (Kd.R_new' (Kd.R_new' (Kd.R_new' ho46 (Kd.R_lt (by (with_reducible repeat first|apply rA|apply rN|apply rD);exact HO191.out))) (Kd.R_lt (by (with_reducible repeat first|apply rA|apply rN|apply rD);exact HO194.out))) (Kd.R_lt (by (with_reducible repeat first|apply rA|apply rN|apply rD);exact HO201.out))) (Kd.R_lt (by (with_reducible repeat first|apply rA|apply rN|apply rD);exact HO204.out))) (Kd.R_lt (by (with_reducible repeat first|apply rA|apply rN|apply rD);exact HO217.out))) (below_size (by repeat (first|(with_reducible first|exact HB.out|apply eA|apply eN|apply eD|refine below_set ?_ GE198.out|refine below_set ?_ GE207.out|refine below_set ?_ GE213.out|refine below_set ?_ GE214.out)|exact HB.out))))
            have n8_ := Aside0.mk (blk_below (g := gb198) (o := .cells #[.slice Ao18 t195.length co18] 24 (0, 0)) (by (with_reducible repeat first|apply bN|apply bD|apply bA);exact BK198.out) hb)
            have n9_ := Aside0.mk (blk_below (g := gb207) (o := .cells #[.int .i64 t205, .int .i64 t206] 27 (0, 0)) (by (with_reducible repeat first|apply bN|apply bD|apply bA);exact BK207.out) hb)
            have n10_ := Aside0.mk (blk_below (g := gb213) (o := .cells #[.slice Ao31 t208.length co31] 24 (0, 0)) (by (with_reducible repeat first|apply bN|apply bD|apply bA);exact BK213.out) hb)
            have n11_ := Aside0.mk (blk_below (g := gb214) (o := .cells #[.int .i64 t211, .int .i64 t212] 27 (0, 0)) (by (with_reducible repeat first|apply bN|apply bD|apply bA);exact BK214.out) hb)
            have n12_ := Aside0.mk (below_step (by repeat (first|(with_reducible first|exact HB.out|apply eA|apply eN|apply eD|refine below_set ?_ GE198.out|refine below_set ?_ GE207.out|refine below_set ?_ GE213.out|refine below_set ?_ GE214.out)|exact HB.out)) hb)
            clear HO191
            clear HO194
            clear HO197
            clear HO201
            clear HO204
            clear HO210
            clear HO217
            clear BK198
            clear BK207
            clear BK213
            clear BK214
            clear HB
            have HO191 := n0_
            have HO194 := n1_
            have HO197 := n2_
            have HO201 := n3_
            have HO204 := n4_
            have HO210 := n5_
            have HO217 := n6_
            have HO221 := n7_
            have BK198 := n8_
            have BK207 := n9_
            have BK213 := n10_
            have BK214 := n11_
            have HB := n12_
            clear n0_ n1_ n2_ n3_ n4_ n5_ n6_ n7_ n8_ n9_ n10_ n11_ n12_
            clear hb ho46
            refine hK.out _ _ ⟨(blk_cell BK207.out 0).trans rfl, (blk_cell BK207.out 1).trans rfl, (blk_cell BK214.out 0).trans rfl, (blk_cell BK214.out 1).trans rfl, (blk_cell BK213.out 0).trans rfl⟩ (fun hHeld => ?_)
            clear hK K
            refine norm_ (a' := ?_) ?_ ?_
            rotate_left
            · show Act.put _ (some 35) _ = _
              simp only [Act.put, sA, sB, sC, i64_w, i32_w]
              rfl
            refine one_ (i := 16) (N := some 36) #[true, true, true, true, true, true, true, true, true, true, true, true, true, true, true, true, true, false, false, false, false] rfl rfl (one_of HT_.out (by kernel_rfl)) (by decide) (fun K hK => ?_)
            refine Kd.R_lit_step Kd.string _ 9 ?hg (N := 36) ?hd (xs := ([(⟨#[98]⟩ : ByteArray)] : List ByteArray)) (inner := [.string (⟨#[98]⟩ : ByteArray)]) (ok := fun _ => True) (okp := fun _ => True) ?hr ?hp (fun _ hk => hk) trivial (Below.refl _ _) (Nat.le_refl _) (by simp) ?_;(case hd => rfl);(case hg => rfl);(case hr => first|(go_simp;done)|(go_simp;rfl));(case hp => exact (Reps.one (show Kd.M Kd.string _ _ _ (⟨#[98]⟩ : ByteArray) [.string (⟨#[98]⟩ : ByteArray)] from rfl) (Reps.none _ _)))
            intro v223 w47 ho48 hb hg_ hnew_
            clear hg_ hnew_
            (first|rw [← Ny222.out] at ho48|(simp only [Int.reduceToNat] at ho48;rw [← Ny222.out] at ho48))
            have n0_ := Aside0.mk (Kd.R_elder' (by (with_reducible repeat first|apply rA|apply rN|apply rD);exact HO191.out) (Kd.R_base ho48) hb)
            have n1_ := Aside0.mk (Kd.R_elder' (by (with_reducible repeat first|apply rA|apply rN|apply rD);exact HO194.out) (Kd.R_base ho48) hb)
            have n2_ := Aside0.mk (Kd.N_elder' (by (with_reducible repeat first|apply nA|apply nN|apply nD);exact HO197.out) (Kd.R_base ho48) hb)
            have n3_ := Aside0.mk (Kd.R_elder' (by (with_reducible repeat first|apply rA|apply rN|apply rD);exact HO201.out) (Kd.R_base ho48) hb)
            have n4_ := Aside0.mk (Kd.R_elder' (by (with_reducible repeat first|apply rA|apply rN|apply rD);exact HO204.out) (Kd.R_base ho48) hb)
            have n5_ := Aside0.mk (Kd.V_elder' (by (with_reducible repeat (first|apply Kd.V_alloc|apply Kd.V_drewN|apply Kd.V_drew));exact HO210.out) (Kd.R_base ho48) hb)
            have n6_ := Aside0.mk (Kd.R_elder' (by (with_reducible repeat first|apply rA|apply rN|apply rD);exact HO217.out) (Kd.R_base ho48) hb)
            have n7_ := Aside0.mk (Kd.R_elder' (by (with_reducible repeat first|apply rA|apply rN|apply rD);exact HO221.out) (Kd.R_base ho48) hb)
            have n8_ := Aside0.mk (Kd.R_lower (Kd.R_new' (Kd.R_new' (Kd.R_new' (Kd.R_new' (Kd.R_new' (Kd.R_new' ho48 (Kd.R_lt (by (with_reducible repeat first|apply rA|apply rN|apply rD);exact HO191.out))) (Kd.R_lt (by (with_reducible repeat first|apply rA|apply rN|apply rD);exact HO194.out))) (Kd.R_lt (by (with_reducible repeat first|apply rA|apply rN|apply rD);exact HO201.out))) (Kd.R_lt (by (with_reducible repeat first|apply rA|apply rN|apply rD);exact HO204.out))) (Kd.R_lt (by (with_reducible repeat first|apply rA|apply rN|apply rD);exact HO217.out))) (Kd.R_lt (by (with_reducible repeat first|apply rA|apply rN|apply rD);exact HO221.out))) (below_size (by repeat (first|(with_reducible first|exact HB.out|apply eA|apply eN|apply eD|refine below_set ?_ GE198.out|refine below_set ?_ GE207.out|refine below_set ?_ GE213.out|refine below_set ?_ GE214.out)|exact HB.out))))
            have n9_ := Aside0.mk (blk_below (g := gb198) (o := .cells #[.slice Ao18 t195.length co18] 24 (0, 0)) (by (with_reducible repeat first|apply bN|apply bD|apply bA);exact BK198.out) hb)
            have n10_ := Aside0.mk (blk_below (g := gb207) (o := .cells #[.int .i64 t205, .int .i64 t206] 27 (0, 0)) (by (with_reducible repeat first|apply bN|apply bD|apply bA);exact BK207.out) hb)
            have n11_ := Aside0.mk (blk_below (g := gb213) (o := .cells #[.slice Ao31 t208.length co31] 24 (0, 0)) (by (with_reducible repeat first|apply bN|apply bD|apply bA);exact BK213.out) hb)
            have n12_ := Aside0.mk (blk_below (g := gb214) (o := .cells #[.int .i64 t211, .int .i64 t212] 27 (0, 0)) (by (with_reducible repeat first|apply bN|apply bD|apply bA);exact BK214.out) hb)
            have n13_ := Aside0.mk (below_step (by repeat (first|(with_reducible first|exact HB.out|apply eA|apply eN|apply eD|refine below_set ?_ GE198.out|refine below_set ?_ GE207.out|refine below_set ?_ GE213.out|refine below_set ?_ GE214.out)|exact HB.out)) hb)
            clear HO191
            clear HO194
            clear HO197
            clear HO201
            clear HO204
            clear HO210
            clear HO217
            clear HO221
            clear BK198
            clear BK207
            clear BK213
            clear BK214
            clear HB
            have HO191 := n0_
            have HO194 := n1_
            have HO197 := n2_
            have HO201 := n3_
            have HO204 := n4_
            have HO210 := n5_
            have HO217 := n6_
            have HO221 := n7_
            have HO224 := n8_
            have BK198 := n9_
            have BK207 := n10_
            have BK213 := n11_
            have BK214 := n12_
            have HB := n13_
            clear n0_ n1_ n2_ n3_ n4_ n5_ n6_ n7_ n8_ n9_ n10_ n11_ n12_ n13_
            clear hb ho48
            refine hK.out _ _ ⟨(blk_cell BK207.out 0).trans rfl, (blk_cell BK207.out 1).trans rfl, (blk_cell BK214.out 0).trans rfl, (blk_cell BK214.out 1).trans rfl, (blk_cell BK213.out 0).trans rfl⟩ (fun hHeld => ?_)
            clear hK K
            refine norm_ (a' := ?_) ?_ ?_
            rotate_left
            · show Act.put _ (some 36) _ = _
              simp only [Act.put, sA, sB, sC, i64_w, i32_w]
              rfl
            exact norm_ (by simp only [putAll, Act.put, sA, sB, sC]) (hCont (v220, v223) _ ⟨hHeld, (by (with_reducible repeat first|apply rA|apply rN|apply rD);exact Kd.R_mono HO191.out (fun _ hk => ⟨hk.1.1.1.1, ⟨hk.1.1.1.2.1, ⟨hk.1.1.1.2.2, ⟨hk.1.1.2, ⟨hk.1.2, hk.2⟩⟩⟩⟩⟩)), (by (with_reducible repeat first|apply rA|apply rN|apply rD);exact Kd.R_mono HO194.out (fun _ hk => ⟨hk.1.1.1.1, ⟨hk.1.1.1.2.1, ⟨hk.1.1.1.2.2, ⟨hk.1.1.2, ⟨hk.1.2, hk.2⟩⟩⟩⟩⟩)), (by (with_reducible repeat first|apply nA|apply nN|apply nD);exact Kd.N_mono HO197.out (fun _ hk => ⟨hk.1.1.1.1, ⟨hk.1.1.1.2.1, ⟨hk.1.1.2, ⟨hk.1.2, ⟨hk.2, ⟨hk.1.1.1.2.2.1, ⟨hk.1.1.1.2.2.2.1, ⟨hk.1.1.1.2.2.2.2.1, hk.1.1.1.2.2.2.2.2⟩⟩⟩⟩⟩⟩⟩⟩)), (by (with_reducible repeat first|apply rA|apply rN|apply rD);exact Kd.R_mono HO201.out (fun _ hk => ⟨hk.1.1.1.1, ⟨hk.1.1.1.2.1, ⟨hk.1.1.1.2.2, ⟨hk.1.1.2, ⟨hk.1.2, hk.2⟩⟩⟩⟩⟩)), (by (with_reducible repeat first|apply rA|apply rN|apply rD);exact Kd.R_mono HO204.out (fun _ hk => ⟨hk.1.1.1.1, ⟨hk.1.1.1.2.1, ⟨hk.1.1.1.2.2, ⟨hk.1.1.2, ⟨hk.1.2, hk.2⟩⟩⟩⟩⟩)), (by (with_reducible repeat (first|apply Kd.V_alloc|apply Kd.V_drewN|apply Kd.V_drew));exact Kd.V_mono HO210.out (fun _ hk => ⟨hk.1.1.1.1, ⟨hk.1.1.1.2.1, ⟨hk.1.1.1.2.2.1, ⟨hk.1.1.1.2.2.2.1, ⟨hk.1.1.1.2.2.2.2.1, ⟨hk.1.1.2, ⟨hk.1.2, ⟨hk.2, ⟨hk.1.1.1.2.2.2.2.2.1, ⟨hk.1.1.1.2.2.2.2.2.2.1, ⟨hk.1.1.1.2.2.2.2.2.2.2.1, hk.1.1.1.2.2.2.2.2.2.2.2⟩⟩⟩⟩⟩⟩⟩⟩⟩⟩⟩)), (by (with_reducible repeat first|apply rA|apply rN|apply rD);exact Kd.R_mono HO217.out (fun _ hk => ⟨hk.1.1.1.1.1.2, ⟨hk.1.1.1.1.2, ⟨hk.1.1.1.2, ⟨hk.1.1.2, ⟨hk.1.2, hk.2⟩⟩⟩⟩⟩)), (by (with_reducible repeat first|apply rA|apply rN|apply rD);exact Kd.R_mono HO221.out (fun _ hk => ⟨hk.1.1.1.1.1.2, ⟨hk.1.1.1.1.2, ⟨hk.1.1.1.2, ⟨hk.1.1.2, ⟨hk.1.2, hk.2⟩⟩⟩⟩⟩)), (by (with_reducible repeat first|apply rA|apply rN|apply rD);exact Kd.R_mono HO224.out (fun _ hk => ⟨hk.1.1.1.1.1.2, ⟨hk.1.1.1.1.2, ⟨hk.1.1.1.2, ⟨hk.1.1.2, ⟨hk.1.2, hk.2⟩⟩⟩⟩⟩)), (by (with_reducible repeat first|apply bN|apply bD|apply bA);exact BK198.out), (by (with_reducible repeat first|apply bN|apply bD|apply bA);exact BK207.out), (by (with_reducible repeat first|apply bN|apply bD|apply bA);exact BK213.out), (by (with_reducible repeat first|apply bN|apply bD|apply bA);exact BK214.out), (by repeat (first|(with_reducible first|exact HB.out|apply eA|apply eN|apply eD|refine below_set ?_ GE198.out|refine below_set ?_ GE207.out|refine below_set ?_ GE213.out|refine below_set ?_ GE214.out)|exact HB.out))⟩)
          · skip
            refine Kd.R_lit_step Kd.string _ 9 ?hg (N := 36) ?hd (xs := ([(⟨#[98]⟩ : ByteArray)] : List ByteArray)) (inner := [.string (⟨#[98]⟩ : ByteArray)]) (ok := fun _ => True) (okp := fun _ => True) ?hr ?hp (fun _ hk => hk) trivial (Below.refl _ _) (Nat.le_refl _) (by simp) ?_;(case hd => rfl);(case hg => rfl);(case hr => first|(go_simp;done)|(go_simp;rfl));(case hp => exact (Reps.one (show Kd.M Kd.string _ _ _ (⟨#[98]⟩ : ByteArray) [.string (⟨#[98]⟩ : ByteArray)] from rfl) (Reps.none _ _)))
            intro v223 w45 ho46 hb hg_ hnew_
            clear hg_ hnew_
            (first|rw [← Ny222.out] at ho46|(simp only [Int.reduceToNat] at ho46;rw [← Ny222.out] at ho46))
            have n0_ := Aside0.mk (Kd.R_elder' (by (with_reducible repeat first|apply rA|apply rN|apply rD);exact HO191.out) (Kd.R_base ho46) hb)
            have n1_ := Aside0.mk (Kd.R_elder' (by (with_reducible repeat first|apply rA|apply rN|apply rD);exact HO194.out) (Kd.R_base ho46) hb)
            have n2_ := Aside0.mk (Kd.N_elder' (by (with_reducible repeat first|apply nA|apply nN|apply nD);exact HO197.out) (Kd.R_base ho46) hb)
            have n3_ := Aside0.mk (Kd.R_elder' (by (with_reducible repeat first|apply rA|apply rN|apply rD);exact HO201.out) (Kd.R_base ho46) hb)
            have n4_ := Aside0.mk (Kd.R_elder' (by (with_reducible repeat first|apply rA|apply rN|apply rD);exact HO204.out) (Kd.R_base ho46) hb)
            have n5_ := Aside0.mk (Kd.V_elder' (by (with_reducible repeat (first|apply Kd.V_alloc|apply Kd.V_drewN|apply Kd.V_drew));exact HO210.out) (Kd.R_base ho46) hb)
            have n6_ := Aside0.mk (Kd.R_elder' (by (with_reducible repeat first|apply rA|apply rN|apply rD);exact HO217.out) (Kd.R_base ho46) hb)
            have n7_ := Aside0.mk (Kd.R_lower (Kd.R_new' (Kd.R_new' (Kd.R_new' (Kd.R_new' (Kd.R_new' ho46 (Kd.R_lt (by (with_reducible repeat first|apply rA|apply rN|apply rD);exact HO191.out))) (Kd.R_lt (by (with_reducible repeat first|apply rA|apply rN|apply rD);exact HO194.out))) (Kd.R_lt (by (with_reducible repeat first|apply rA|apply rN|apply rD);exact HO201.out))) (Kd.R_lt (by (with_reducible repeat first|apply rA|apply rN|apply rD);exact HO204.out))) (Kd.R_lt (by (with_reducible repeat first|apply rA|apply rN|apply rD);exact HO217.out))) (below_size (by repeat (first|(with_reducible first|exact HB.out|apply eA|apply eN|apply eD|refine below_set ?_ GE198.out|refine below_set ?_ GE207.out|refine below_set ?_ GE213.out|refine below_set ?_ GE214.out)|exact HB.out))))
            have n8_ := Aside0.mk (blk_below (g := gb198) (o := .cells #[.slice Ao18 t195.length co18] 24 (0, 0)) (by (with_reducible repeat first|apply bN|apply bD|apply bA);exact BK198.out) hb)
            have n9_ := Aside0.mk (blk_below (g := gb207) (o := .cells #[.int .i64 t205, .int .i64 t206] 27 (0, 0)) (by (with_reducible repeat first|apply bN|apply bD|apply bA);exact BK207.out) hb)
            have n10_ := Aside0.mk (blk_below (g := gb213) (o := .cells #[.slice Ao31 t208.length co31] 24 (0, 0)) (by (with_reducible repeat first|apply bN|apply bD|apply bA);exact BK213.out) hb)
            have n11_ := Aside0.mk (blk_below (g := gb214) (o := .cells #[.int .i64 t211, .int .i64 t212] 27 (0, 0)) (by (with_reducible repeat first|apply bN|apply bD|apply bA);exact BK214.out) hb)
            have n12_ := Aside0.mk (below_step (by repeat (first|(with_reducible first|exact HB.out|apply eA|apply eN|apply eD|refine below_set ?_ GE198.out|refine below_set ?_ GE207.out|refine below_set ?_ GE213.out|refine below_set ?_ GE214.out)|exact HB.out)) hb)
            clear HO191
            clear HO194
            clear HO197
            clear HO201
            clear HO204
            clear HO210
            clear HO217
            clear BK198
            clear BK207
            clear BK213
            clear BK214
            clear HB
            have HO191 := n0_
            have HO194 := n1_
            have HO197 := n2_
            have HO201 := n3_
            have HO204 := n4_
            have HO210 := n5_
            have HO217 := n6_
            have HO224 := n7_
            have BK198 := n8_
            have BK207 := n9_
            have BK213 := n10_
            have BK214 := n11_
            have HB := n12_
            clear n0_ n1_ n2_ n3_ n4_ n5_ n6_ n7_ n8_ n9_ n10_ n11_ n12_
            clear hb ho46
            refine hK.out _ _ ⟨(blk_cell BK207.out 0).trans rfl, (blk_cell BK207.out 1).trans rfl, (blk_cell BK214.out 0).trans rfl, (blk_cell BK214.out 1).trans rfl, (blk_cell BK213.out 0).trans rfl⟩ (fun hHeld => ?_)
            clear hK K
            refine norm_ (a' := ?_) ?_ ?_
            rotate_left
            · show Act.put _ (some 36) _ = _
              simp only [Act.put, sA, sB, sC, i64_w, i32_w]
              rfl
            refine one_ (i := 15) (N := some 35) #[true, true, true, true, true, true, true, true, true, true, true, true, true, true, true, true, true, false, false, false, false] rfl rfl (one_of HT_.out (by kernel_rfl)) (by decide) (fun K hK => ?_)
            refine Kd.R_lit_step Kd.string _ 9 ?hg (N := 35) ?hd (xs := ([(⟨#[99]⟩ : ByteArray), (⟨#[100]⟩ : ByteArray)] : List ByteArray)) (inner := [.string (⟨#[99]⟩ : ByteArray), .string (⟨#[100]⟩ : ByteArray)]) (ok := fun _ => True) (okp := fun _ => True) ?hr ?hp (fun _ hk => hk) trivial (Below.refl _ _) (Nat.le_refl _) (by simp) ?_;(case hd => rfl);(case hg => rfl);(case hr => first|(go_simp;done)|(go_simp;rfl));(case hp => exact (Reps.one (show Kd.M Kd.string _ _ _ (⟨#[99]⟩ : ByteArray) [.string (⟨#[99]⟩ : ByteArray)] from rfl) (Reps.one (show Kd.M Kd.string _ _ _ (⟨#[100]⟩ : ByteArray) [.string (⟨#[100]⟩ : ByteArray)] from rfl) (Reps.none _ _))))
            intro v220 w47 ho48 hb hg_ hnew_
            clear hg_ hnew_
            (first|rw [← Ny219.out] at ho48|(simp only [Int.reduceToNat] at ho48;rw [← Ny219.out] at ho48))
            have n0_ := Aside0.mk (Kd.R_elder' (by (with_reducible repeat first|apply rA|apply rN|apply rD);exact HO191.out) (Kd.R_base ho48) hb)
            have n1_ := Aside0.mk (Kd.R_elder' (by (with_reducible repeat first|apply rA|apply rN|apply rD);exact HO194.out) (Kd.R_base ho48) hb)
            have n2_ := Aside0.mk (Kd.N_elder' (by (with_reducible repeat first|apply nA|apply nN|apply nD);exact HO197.out) (Kd.R_base ho48) hb)
            have n3_ := Aside0.mk (Kd.R_elder' (by (with_reducible repeat first|apply rA|apply rN|apply rD);exact HO201.out) (Kd.R_base ho48) hb)
            have n4_ := Aside0.mk (Kd.R_elder' (by (with_reducible repeat first|apply rA|apply rN|apply rD);exact HO204.out) (Kd.R_base ho48) hb)
            have n5_ := Aside0.mk (Kd.V_elder' (by (with_reducible repeat (first|apply Kd.V_alloc|apply Kd.V_drewN|apply Kd.V_drew));exact HO210.out) (Kd.R_base ho48) hb)
            have n6_ := Aside0.mk (Kd.R_elder' (by (with_reducible repeat first|apply rA|apply rN|apply rD);exact HO217.out) (Kd.R_base ho48) hb)
            have n7_ := Aside0.mk (Kd.R_elder' (by (with_reducible repeat first|apply rA|apply rN|apply rD);exact HO224.out) (Kd.R_base ho48) hb)
            have n8_ := Aside0.mk (Kd.R_lower (Kd.R_new' (Kd.R_new' (Kd.R_new' (Kd.R_new' (Kd.R_new' (Kd.R_new' ho48 (Kd.R_lt (by (with_reducible repeat first|apply rA|apply rN|apply rD);exact HO191.out))) (Kd.R_lt (by (with_reducible repeat first|apply rA|apply rN|apply rD);exact HO194.out))) (Kd.R_lt (by (with_reducible repeat first|apply rA|apply rN|apply rD);exact HO201.out))) (Kd.R_lt (by (with_reducible repeat first|apply rA|apply rN|apply rD);exact HO204.out))) (Kd.R_lt (by (with_reducible repeat first|apply rA|apply rN|apply rD);exact HO217.out))) (Kd.R_lt (by (with_reducible repeat first|apply rA|apply rN|apply rD);exact HO224.out))) (below_size (by repeat (first|(with_reducible first|exact HB.out|apply eA|apply eN|apply eD|refine below_set ?_ GE198.out|refine below_set ?_ GE207.out|refine below_set ?_ GE213.out|refine below_set ?_ GE214.out)|exact HB.out))))
            have n9_ := Aside0.mk (blk_below (g := gb198) (o := .cells #[.slice Ao18 t195.length co18] 24 (0, 0)) (by (with_reducible repeat first|apply bN|apply bD|apply bA);exact BK198.out) hb)
            have n10_ := Aside0.mk (blk_below (g := gb207) (o := .cells #[.int .i64 t205, .int .i64 t206] 27 (0, 0)) (by (with_reducible repeat first|apply bN|apply bD|apply bA);exact BK207.out) hb)
            have n11_ := Aside0.mk (blk_below (g := gb213) (o := .cells #[.slice Ao31 t208.length co31] 24 (0, 0)) (by (with_reducible repeat first|apply bN|apply bD|apply bA);exact BK213.out) hb)
            have n12_ := Aside0.mk (blk_below (g := gb214) (o := .cells #[.int .i64 t211, .int .i64 t212] 27 (0, 0)) (by (with_reducible repeat first|apply bN|apply bD|apply bA);exact BK214.out) hb)
            have n13_ := Aside0.mk (below_step (by repeat (first|(with_reducible first|exact HB.out|apply eA|apply eN|apply eD|refine below_set ?_ GE198.out|refine below_set ?_ GE207.out|refine below_set ?_ GE213.out|refine below_set ?_ GE214.out)|exact HB.out)) hb)
            clear HO191
            clear HO194
            clear HO197
            clear HO201
            clear HO204
            clear HO210
            clear HO217
            clear HO224
            clear BK198
            clear BK207
            clear BK213
            clear BK214
            clear HB
            have HO191 := n0_
            have HO194 := n1_
            have HO197 := n2_
            have HO201 := n3_
            have HO204 := n4_
            have HO210 := n5_
            have HO217 := n6_
            have HO224 := n7_
            have HO221 := n8_
            have BK198 := n9_
            have BK207 := n10_
            have BK213 := n11_
            have BK214 := n12_
            have HB := n13_
            clear n0_ n1_ n2_ n3_ n4_ n5_ n6_ n7_ n8_ n9_ n10_ n11_ n12_ n13_
            clear hb ho48
            refine hK.out _ _ ⟨(blk_cell BK207.out 0).trans rfl, (blk_cell BK207.out 1).trans rfl, (blk_cell BK214.out 0).trans rfl, (blk_cell BK214.out 1).trans rfl, (blk_cell BK213.out 0).trans rfl⟩ (fun hHeld => ?_)
            clear hK K
            refine norm_ (a' := ?_) ?_ ?_
            rotate_left
            · show Act.put _ (some 35) _ = _
              simp only [Act.put, sA, sB, sC, i64_w, i32_w]
              rfl
            exact norm_ (by simp only [putAll, Act.put, sA, sB, sC]) (hCont (v220, v223) _ ⟨hHeld, (by (with_reducible repeat first|apply rA|apply rN|apply rD);exact Kd.R_mono HO191.out (fun _ hk => ⟨hk.1.1.1.1, ⟨hk.1.1.1.2.1, ⟨hk.1.1.1.2.2, ⟨hk.1.1.2, ⟨hk.2, hk.1.2⟩⟩⟩⟩⟩)), (by (with_reducible repeat first|apply rA|apply rN|apply rD);exact Kd.R_mono HO194.out (fun _ hk => ⟨hk.1.1.1.1, ⟨hk.1.1.1.2.1, ⟨hk.1.1.1.2.2, ⟨hk.1.1.2, ⟨hk.2, hk.1.2⟩⟩⟩⟩⟩)), (by (with_reducible repeat first|apply nA|apply nN|apply nD);exact Kd.N_mono HO197.out (fun _ hk => ⟨hk.1.1.1.1, ⟨hk.1.1.1.2.1, ⟨hk.1.1.2, ⟨hk.2, ⟨hk.1.2, ⟨hk.1.1.1.2.2.1, ⟨hk.1.1.1.2.2.2.1, ⟨hk.1.1.1.2.2.2.2.1, hk.1.1.1.2.2.2.2.2⟩⟩⟩⟩⟩⟩⟩⟩)), (by (with_reducible repeat first|apply rA|apply rN|apply rD);exact Kd.R_mono HO201.out (fun _ hk => ⟨hk.1.1.1.1, ⟨hk.1.1.1.2.1, ⟨hk.1.1.1.2.2, ⟨hk.1.1.2, ⟨hk.2, hk.1.2⟩⟩⟩⟩⟩)), (by (with_reducible repeat first|apply rA|apply rN|apply rD);exact Kd.R_mono HO204.out (fun _ hk => ⟨hk.1.1.1.1, ⟨hk.1.1.1.2.1, ⟨hk.1.1.1.2.2, ⟨hk.1.1.2, ⟨hk.2, hk.1.2⟩⟩⟩⟩⟩)), (by (with_reducible repeat (first|apply Kd.V_alloc|apply Kd.V_drewN|apply Kd.V_drew));exact Kd.V_mono HO210.out (fun _ hk => ⟨hk.1.1.1.1, ⟨hk.1.1.1.2.1, ⟨hk.1.1.1.2.2.1, ⟨hk.1.1.1.2.2.2.1, ⟨hk.1.1.1.2.2.2.2.1, ⟨hk.1.1.2, ⟨hk.2, ⟨hk.1.2, ⟨hk.1.1.1.2.2.2.2.2.1, ⟨hk.1.1.1.2.2.2.2.2.2.1, ⟨hk.1.1.1.2.2.2.2.2.2.2.1, hk.1.1.1.2.2.2.2.2.2.2.2⟩⟩⟩⟩⟩⟩⟩⟩⟩⟩⟩)), (by (with_reducible repeat first|apply rA|apply rN|apply rD);exact Kd.R_mono HO217.out (fun _ hk => ⟨hk.1.1.1.1.1.2, ⟨hk.1.1.1.1.2, ⟨hk.1.1.1.2, ⟨hk.1.1.2, ⟨hk.2, hk.1.2⟩⟩⟩⟩⟩)), (by (with_reducible repeat first|apply rA|apply rN|apply rD);exact Kd.R_mono HO221.out (fun _ hk => ⟨hk.1.1.1.1.1.2, ⟨hk.1.1.1.1.2, ⟨hk.1.1.1.2, ⟨hk.1.1.2, ⟨hk.1.2, hk.2⟩⟩⟩⟩⟩)), (by (with_reducible repeat first|apply rA|apply rN|apply rD);exact Kd.R_mono HO224.out (fun _ hk => ⟨hk.1.1.1.1.1.2, ⟨hk.1.1.1.1.2, ⟨hk.1.1.1.2, ⟨hk.1.1.2, ⟨hk.1.2, hk.2⟩⟩⟩⟩⟩)), (by (with_reducible repeat first|apply bN|apply bD|apply bA);exact BK198.out), (by (with_reducible repeat first|apply bN|apply bD|apply bA);exact BK207.out), (by (with_reducible repeat first|apply bN|apply bD|apply bA);exact BK213.out), (by (with_reducible repeat first|apply bN|apply bD|apply bA);exact BK214.out), (by repeat (first|(with_reducible first|exact HB.out|apply eA|apply eN|apply eD|refine below_set ?_ GE198.out|refine below_set ?_ GE207.out|refine below_set ?_ GE213.out|refine below_set ?_ GE214.out)|exact HB.out))⟩)
        rintro ⟨v220, v223⟩ w49 ⟨hS_, h0_, h1_, h2_, h3_, h4_, h5_, h6_, h7_, h8_, h9_, h10_, h11_, h12_, h13_⟩
        have n0_ : Aside0 (Kd.R Kd.string 9 w49 w.heap.size (fun k_ => some k_ ≠ (.slice Ao15 y192.length co15 : Value).ownBlock ∧ some k_ ≠ (.slice Ao22 y199.length co22 : Value).ownBlock ∧ some k_ ≠ (.slice Ao39 t202.length co39 : Value).ownBlock ∧ some k_ ≠ (.slice Ao44 y215.length co44 : Value).ownBlock ∧ some k_ ≠ (v220 : Value).ownBlock ∧ some k_ ≠ (v223 : Value).ownBlock) (.slice Ao14 y189.length co14) y189) := ⟨h0_⟩
        have n1_ : Aside0 (Kd.R Kd.string 9 w49 w.heap.size (fun k_ => some k_ ≠ (.slice Ao14 y189.length co14 : Value).ownBlock ∧ some k_ ≠ (.slice Ao22 y199.length co22 : Value).ownBlock ∧ some k_ ≠ (.slice Ao39 t202.length co39 : Value).ownBlock ∧ some k_ ≠ (.slice Ao44 y215.length co44 : Value).ownBlock ∧ some k_ ≠ (v220 : Value).ownBlock ∧ some k_ ≠ (v223 : Value).ownBlock) (.slice Ao15 y192.length co15) y192) := ⟨h1_⟩
        have n2_ : Aside0 (Kd.N k47 47 w49 w.heap.size (fun k_ => some k_ ≠ (.slice Ao22 y199.length co22 : Value).ownBlock ∧ some k_ ≠ (.slice Ao39 t202.length co39 : Value).ownBlock ∧ some k_ ≠ (.slice Ao44 y215.length co44 : Value).ownBlock ∧ some k_ ≠ (v220 : Value).ownBlock ∧ some k_ ≠ (v223 : Value).ownBlock ∧ k_ ≠ gb198 ∧ k_ ≠ gb207 ∧ k_ ≠ gb213 ∧ k_ ≠ gb214) (.slice Ao18 t195.length co18) t195) := ⟨h2_⟩
        have n3_ : Aside0 (Kd.R Kd.string 9 w49 w.heap.size (fun k_ => some k_ ≠ (.slice Ao14 y189.length co14 : Value).ownBlock ∧ some k_ ≠ (.slice Ao15 y192.length co15 : Value).ownBlock ∧ some k_ ≠ (.slice Ao39 t202.length co39 : Value).ownBlock ∧ some k_ ≠ (.slice Ao44 y215.length co44 : Value).ownBlock ∧ some k_ ≠ (v220 : Value).ownBlock ∧ some k_ ≠ (v223 : Value).ownBlock) (.slice Ao22 y199.length co22) y199) := ⟨h3_⟩
        have n4_ : Aside0 (Kd.R Kd.string 9 w49 w.heap.size (fun k_ => some k_ ≠ (.slice Ao14 y189.length co14 : Value).ownBlock ∧ some k_ ≠ (.slice Ao15 y192.length co15 : Value).ownBlock ∧ some k_ ≠ (.slice Ao22 y199.length co22 : Value).ownBlock ∧ some k_ ≠ (.slice Ao44 y215.length co44 : Value).ownBlock ∧ some k_ ≠ (v220 : Value).ownBlock ∧ some k_ ≠ (v223 : Value).ownBlock) (.slice Ao39 t202.length co39) t202) := ⟨h4_⟩
        have n5_ : Aside0 (Kd.V k47 47 w49 w.heap.size (fun k_ => some k_ ≠ (.slice Ao14 y189.length co14 : Value).ownBlock ∧ some k_ ≠ (.slice Ao15 y192.length co15 : Value).ownBlock ∧ some k_ ≠ (.slice Ao18 t195.length co18 : Value).ownBlock ∧ some k_ ≠ (.slice Ao22 y199.length co22 : Value).ownBlock ∧ some k_ ≠ (.slice Ao39 t202.length co39 : Value).ownBlock ∧ some k_ ≠ (.slice Ao44 y215.length co44 : Value).ownBlock ∧ some k_ ≠ (v220 : Value).ownBlock ∧ some k_ ≠ (v223 : Value).ownBlock ∧ k_ ≠ gb198 ∧ k_ ≠ gb207 ∧ k_ ≠ gb213 ∧ k_ ≠ gb214) (.slice Ao31 t208.length co31) t208) := ⟨h5_⟩
        have n6_ : Aside0 (Kd.R Kd.string 9 w49 w.heap.size (fun k_ => some k_ ≠ (.slice Ao14 y189.length co14 : Value).ownBlock ∧ some k_ ≠ (.slice Ao15 y192.length co15 : Value).ownBlock ∧ some k_ ≠ (.slice Ao22 y199.length co22 : Value).ownBlock ∧ some k_ ≠ (.slice Ao39 t202.length co39 : Value).ownBlock ∧ some k_ ≠ (v220 : Value).ownBlock ∧ some k_ ≠ (v223 : Value).ownBlock) (.slice Ao44 y215.length co44) y215) := ⟨h6_⟩
        have n7_ : Aside0 (Kd.R Kd.string 9 w49 w.heap.size (fun k_ => some k_ ≠ (.slice Ao14 y189.length co14 : Value).ownBlock ∧ some k_ ≠ (.slice Ao15 y192.length co15 : Value).ownBlock ∧ some k_ ≠ (.slice Ao22 y199.length co22 : Value).ownBlock ∧ some k_ ≠ (.slice Ao39 t202.length co39 : Value).ownBlock ∧ some k_ ≠ (.slice Ao44 y215.length co44 : Value).ownBlock ∧ some k_ ≠ (v223 : Value).ownBlock) v220 y219) := ⟨h7_⟩
        have n8_ : Aside0 (Kd.R Kd.string 9 w49 w.heap.size (fun k_ => some k_ ≠ (.slice Ao14 y189.length co14 : Value).ownBlock ∧ some k_ ≠ (.slice Ao15 y192.length co15 : Value).ownBlock ∧ some k_ ≠ (.slice Ao22 y199.length co22 : Value).ownBlock ∧ some k_ ≠ (.slice Ao39 t202.length co39 : Value).ownBlock ∧ some k_ ≠ (.slice Ao44 y215.length co44 : Value).ownBlock ∧ some k_ ≠ (v220 : Value).ownBlock) v223 y222) := ⟨h8_⟩
        have n9_ : Aside0 (w49.heap[gb198]? = some (.cells #[.slice Ao18 t195.length co18] 24 (0, 0))) := ⟨h9_⟩
        have n10_ : Aside0 (w49.heap[gb207]? = some (.cells #[.int .i64 t205, .int .i64 t206] 27 (0, 0))) := ⟨h10_⟩
        have n11_ : Aside0 (w49.heap[gb213]? = some (.cells #[.slice Ao31 t208.length co31] 24 (0, 0))) := ⟨h11_⟩
        have n12_ : Aside0 (w49.heap[gb214]? = some (.cells #[.int .i64 t211, .int .i64 t212] 27 (0, 0))) := ⟨h12_⟩
        have n13_ : Aside0 (Below w.heap.size w w49) := ⟨h13_⟩
        clear HO191
        clear HO194
        clear HO197
        clear HO201
        clear HO204
        clear HO210
        clear BK198
        clear BK207
        clear BK213
        clear BK214
        clear HB
        clear h0_ h1_ h2_ h3_ h4_ h5_ h6_ h7_ h8_ h9_ h10_ h11_ h12_ h13_
        have HO191 := n0_
        have HO194 := n1_
        have HO197 := n2_
        have HO201 := n3_
        have HO204 := n4_
        have HO210 := n5_
        have HO217 := n6_
        have HO221 := n7_
        have HO224 := n8_
        have BK198 := n9_
        have BK207 := n10_
        have BK213 := n11_
        have BK214 := n12_
        have HB := n13_
        clear n0_ n1_ n2_ n3_ n4_ n5_ n6_ n7_ n8_ n9_ n10_ n11_ n12_ n13_
        have hHeld : w49.cell? ⟨gb207, 0, none⟩ = some (.int .i64 t205) ∧ w49.cell? ⟨gb207, 1, none⟩ = some (.int .i64 t206) ∧ w49.cell? ⟨gb214, 0, none⟩ = some (.int .i64 t211) ∧ w49.cell? ⟨gb214, 1, none⟩ = some (.int .i64 t212) ∧ w49.cell? ⟨gb213, 0, none⟩ = some (.slice Ao31 t208.length co31) := hS_
        obtain ⟨Ao50, co50, eo50⟩ := Kd.R_slice HO221.out
        (first|subst eo50|(injection eo50 with f1_ f2_ f3_;have f4_ := f1_.symm;have f5_ := f3_.symm;clear f1_ f2_ f3_;subst f4_;subst f5_))
        obtain ⟨Ao51, co51, eo51⟩ := Kd.R_slice HO224.out
        (first|subst eo51|(injection eo51 with f1_ f2_ f3_;have f4_ := f1_.symm;have f5_ := f3_.symm;clear f1_ f2_ f3_;subst f4_;subst f5_))
        refine norm_ (a' := ?_) ?_ ?_
        rotate_left
        · simp only [putAll, Act.put, sA, sB, sC]
          rfl
        refine one_ (i := 17) (N := some 37) #[true, true, true, true, true, true, true, true, true, true, true, true, true, true, true, true, true, true, false, false, false] rfl rfl (one_of HT_.out (by kernel_rfl)) (by decide) (fun K hK => ?_)
        refine goes_ Try.func44 (by kernel_rfl) rfl #[.int .i64 1, .slice Ao50 y219.length co50, .slice Ao51 y222.length co51] (by rfl) rfl rfl (by (try simp only [List.map_toArray, List.map_cons, List.map_nil]);first|done|rfl|(simp only [List.length_drop, List.length_take];rfl)) ?_
        with_reducible refine (changeforgelaw1_hunk.calls 1 (fun k_ => some k_ = (.slice Ao50 y219.length co50 : Value).ownBlock) _ _ y219 (fun k_ => some k_ = (.slice Ao51 y222.length co51 : Value).ownBlock) _ _ y222 t225 _ ?side1 ?side2 A8.out).mono ?_
        (case side1 => exact Kd.R_V (Kd.R_tight rfl (Kd.R_types (Kd.R_types (Kd.R_types (Kd.R_types (Kd.R_apart' (HO221.out) (Kd.N_typed HO197.out) (by decide)) BK198.out (by decide)) BK207.out (by decide)) BK213.out (by decide)) BK214.out (by decide))))
        (case side2 => exact Kd.R_V (Kd.R_tight rfl (Kd.R_types (Kd.R_types (Kd.R_types (Kd.R_types (Kd.R_apart' (HO224.out) (Kd.N_typed HO197.out) (by decide)) BK198.out (by decide)) BK207.out (by decide)) BK213.out (by decide)) BK214.out (by decide))))
        rintro e w52 ⟨v226, rfl, ho0, hb⟩
        refine ⟨_, rfl, ?_⟩
        have n0_ := Aside0.mk (Kd.R_below (by (with_reducible repeat first|apply rA|apply rN|apply rD);exact HO191.out) hb)
        have n1_ := Aside0.mk (Kd.R_below (by (with_reducible repeat first|apply rA|apply rN|apply rD);exact HO194.out) hb)
        have n2_ := Aside0.mk (Kd.N_elder' (by (with_reducible repeat first|apply nA|apply nN|apply nD);exact HO197.out) (Kd.N_base ho0) hb)
        have n3_ := Aside0.mk (Kd.R_below (by (with_reducible repeat first|apply rA|apply rN|apply rD);exact HO201.out) hb)
        have n4_ := Aside0.mk (Kd.R_below (by (with_reducible repeat first|apply rA|apply rN|apply rD);exact HO204.out) hb)
        have n5_ := Aside0.mk (Kd.V_elder' (by (with_reducible repeat (first|apply Kd.V_alloc|apply Kd.V_drewN|apply Kd.V_drew));exact HO210.out) (Kd.N_base ho0) hb)
        have n6_ := Aside0.mk (Kd.R_below (by (with_reducible repeat first|apply rA|apply rN|apply rD);exact HO217.out) hb)
        have n7_ := Aside0.mk (Kd.R_below (by (with_reducible repeat first|apply rA|apply rN|apply rD);exact HO221.out) hb)
        have n8_ := Aside0.mk (Kd.R_below (by (with_reducible repeat first|apply rA|apply rN|apply rD);exact HO224.out) hb)
        have n9_ := Aside0.mk (Kd.N_lower (Kd.N_mono (ok' := fun k_ => some k_ ≠ (.slice Ao14 y189.length co14 : Value).ownBlock ∧ some k_ ≠ (.slice Ao15 y192.length co15 : Value).ownBlock ∧ some k_ ≠ (.slice Ao18 t195.length co18 : Value).ownBlock ∧ some k_ ≠ (.slice Ao22 y199.length co22 : Value).ownBlock ∧ some k_ ≠ (.slice Ao39 t202.length co39 : Value).ownBlock ∧ some k_ ≠ (.slice Ao44 y215.length co44 : Value).ownBlock ∧ k_ ≠ gb198 ∧ k_ ≠ gb207 ∧ k_ ≠ gb213 ∧ k_ ≠ gb214) ho0 (fun k_ hk_ => ⟨Or.elim hk_ (fun hs_ => Or.elim hs_ (fun hs_ => ((Kd.R_types (Kd.R_types (Kd.R_types (Kd.R_types (Kd.R_apart' (HO221.out) (Kd.N_typed HO197.out) (by decide)) BK198.out (by decide)) BK207.out (by decide)) BK213.out (by decide)) BK214.out (by decide)).1 k_ hs_.symm).1.1.1.1.1.1) (fun hs_ => ((Kd.R_types (Kd.R_types (Kd.R_types (Kd.R_types (Kd.R_apart' (HO224.out) (Kd.N_typed HO197.out) (by decide)) BK198.out (by decide)) BK207.out (by decide)) BK213.out (by decide)) BK214.out (by decide)).1 k_ hs_.symm).1.1.1.1.1.1)) (fun hn_ => (Kd.fresh' (Kd.R_lt (by (with_reducible repeat first|apply rA|apply rN|apply rD);exact HO191.out)) k_ hn_)), Or.elim hk_ (fun hs_ => Or.elim hs_ (fun hs_ => ((Kd.R_types (Kd.R_types (Kd.R_types (Kd.R_types (Kd.R_apart' (HO221.out) (Kd.N_typed HO197.out) (by decide)) BK198.out (by decide)) BK207.out (by decide)) BK213.out (by decide)) BK214.out (by decide)).1 k_ hs_.symm).1.1.1.1.1.2.1) (fun hs_ => ((Kd.R_types (Kd.R_types (Kd.R_types (Kd.R_types (Kd.R_apart' (HO224.out) (Kd.N_typed HO197.out) (by decide)) BK198.out (by decide)) BK207.out (by decide)) BK213.out (by decide)) BK214.out (by decide)).1 k_ hs_.symm).1.1.1.1.1.2.1)) (fun hn_ => (Kd.fresh' (Kd.R_lt (by (with_reducible repeat first|apply rA|apply rN|apply rD);exact HO194.out)) k_ hn_)), Or.elim hk_ (fun hs_ => Or.elim hs_ (fun hs_ => ((Kd.R_types (Kd.R_types (Kd.R_types (Kd.R_types (Kd.R_apart' (HO221.out) (Kd.N_typed HO197.out) (by decide)) BK198.out (by decide)) BK207.out (by decide)) BK213.out (by decide)) BK214.out (by decide)).1 k_ hs_.symm).1.1.1.1.2) (fun hs_ => ((Kd.R_types (Kd.R_types (Kd.R_types (Kd.R_types (Kd.R_apart' (HO224.out) (Kd.N_typed HO197.out) (by decide)) BK198.out (by decide)) BK207.out (by decide)) BK213.out (by decide)) BK214.out (by decide)).1 k_ hs_.symm).1.1.1.1.2)) (fun hn_ => (Kd.fresh' (Kd.N_lt (by (with_reducible repeat first|apply nA|apply nN|apply nD);exact HO197.out)) k_ hn_)), Or.elim hk_ (fun hs_ => Or.elim hs_ (fun hs_ => ((Kd.R_types (Kd.R_types (Kd.R_types (Kd.R_types (Kd.R_apart' (HO221.out) (Kd.N_typed HO197.out) (by decide)) BK198.out (by decide)) BK207.out (by decide)) BK213.out (by decide)) BK214.out (by decide)).1 k_ hs_.symm).1.1.1.1.1.2.2.1) (fun hs_ => ((Kd.R_types (Kd.R_types (Kd.R_types (Kd.R_types (Kd.R_apart' (HO224.out) (Kd.N_typed HO197.out) (by decide)) BK198.out (by decide)) BK207.out (by decide)) BK213.out (by decide)) BK214.out (by decide)).1 k_ hs_.symm).1.1.1.1.1.2.2.1)) (fun hn_ => (Kd.fresh' (Kd.R_lt (by (with_reducible repeat first|apply rA|apply rN|apply rD);exact HO201.out)) k_ hn_)), Or.elim hk_ (fun hs_ => Or.elim hs_ (fun hs_ => ((Kd.R_types (Kd.R_types (Kd.R_types (Kd.R_types (Kd.R_apart' (HO221.out) (Kd.N_typed HO197.out) (by decide)) BK198.out (by decide)) BK207.out (by decide)) BK213.out (by decide)) BK214.out (by decide)).1 k_ hs_.symm).1.1.1.1.1.2.2.2.1) (fun hs_ => ((Kd.R_types (Kd.R_types (Kd.R_types (Kd.R_types (Kd.R_apart' (HO224.out) (Kd.N_typed HO197.out) (by decide)) BK198.out (by decide)) BK207.out (by decide)) BK213.out (by decide)) BK214.out (by decide)).1 k_ hs_.symm).1.1.1.1.1.2.2.2.1)) (fun hn_ => (Kd.fresh' (Kd.R_lt (by (with_reducible repeat first|apply rA|apply rN|apply rD);exact HO204.out)) k_ hn_)), Or.elim hk_ (fun hs_ => Or.elim hs_ (fun hs_ => ((Kd.R_types (Kd.R_types (Kd.R_types (Kd.R_types (Kd.R_apart' (HO221.out) (Kd.N_typed HO197.out) (by decide)) BK198.out (by decide)) BK207.out (by decide)) BK213.out (by decide)) BK214.out (by decide)).1 k_ hs_.symm).1.1.1.1.1.2.2.2.2.1) (fun hs_ => ((Kd.R_types (Kd.R_types (Kd.R_types (Kd.R_types (Kd.R_apart' (HO224.out) (Kd.N_typed HO197.out) (by decide)) BK198.out (by decide)) BK207.out (by decide)) BK213.out (by decide)) BK214.out (by decide)).1 k_ hs_.symm).1.1.1.1.1.2.2.2.2.1)) (fun hn_ => (Kd.fresh' (Kd.R_lt (by (with_reducible repeat first|apply rA|apply rN|apply rD);exact HO217.out)) k_ hn_)), Or.elim hk_ (fun hs_ => Or.elim hs_ (fun hs_ => ((Kd.R_types (Kd.R_types (Kd.R_types (Kd.R_types (Kd.R_apart' (HO221.out) (Kd.N_typed HO197.out) (by decide)) BK198.out (by decide)) BK207.out (by decide)) BK213.out (by decide)) BK214.out (by decide)).1 k_ hs_.symm).1.1.1.2) (fun hs_ => ((Kd.R_types (Kd.R_types (Kd.R_types (Kd.R_types (Kd.R_apart' (HO224.out) (Kd.N_typed HO197.out) (by decide)) BK198.out (by decide)) BK207.out (by decide)) BK213.out (by decide)) BK214.out (by decide)).1 k_ hs_.symm).1.1.1.2)) (fun hn_ => (Kd.freshB (g := gb198) (o := .cells #[.slice Ao18 t195.length co18] 24 (0, 0)) (by (with_reducible repeat first|apply bN|apply bD|apply bA);exact BK198.out) k_ hn_)), Or.elim hk_ (fun hs_ => Or.elim hs_ (fun hs_ => ((Kd.R_types (Kd.R_types (Kd.R_types (Kd.R_types (Kd.R_apart' (HO221.out) (Kd.N_typed HO197.out) (by decide)) BK198.out (by decide)) BK207.out (by decide)) BK213.out (by decide)) BK214.out (by decide)).1 k_ hs_.symm).1.1.2) (fun hs_ => ((Kd.R_types (Kd.R_types (Kd.R_types (Kd.R_types (Kd.R_apart' (HO224.out) (Kd.N_typed HO197.out) (by decide)) BK198.out (by decide)) BK207.out (by decide)) BK213.out (by decide)) BK214.out (by decide)).1 k_ hs_.symm).1.1.2)) (fun hn_ => (Kd.freshB (g := gb207) (o := .cells #[.int .i64 t205, .int .i64 t206] 27 (0, 0)) (by (with_reducible repeat first|apply bN|apply bD|apply bA);exact BK207.out) k_ hn_)), Or.elim hk_ (fun hs_ => Or.elim hs_ (fun hs_ => ((Kd.R_types (Kd.R_types (Kd.R_types (Kd.R_types (Kd.R_apart' (HO221.out) (Kd.N_typed HO197.out) (by decide)) BK198.out (by decide)) BK207.out (by decide)) BK213.out (by decide)) BK214.out (by decide)).1 k_ hs_.symm).1.2) (fun hs_ => ((Kd.R_types (Kd.R_types (Kd.R_types (Kd.R_types (Kd.R_apart' (HO224.out) (Kd.N_typed HO197.out) (by decide)) BK198.out (by decide)) BK207.out (by decide)) BK213.out (by decide)) BK214.out (by decide)).1 k_ hs_.symm).1.2)) (fun hn_ => (Kd.freshB (g := gb213) (o := .cells #[.slice Ao31 t208.length co31] 24 (0, 0)) (by (with_reducible repeat first|apply bN|apply bD|apply bA);exact BK213.out) k_ hn_)), Or.elim hk_ (fun hs_ => Or.elim hs_ (fun hs_ => ((Kd.R_types (Kd.R_types (Kd.R_types (Kd.R_types (Kd.R_apart' (HO221.out) (Kd.N_typed HO197.out) (by decide)) BK198.out (by decide)) BK207.out (by decide)) BK213.out (by decide)) BK214.out (by decide)).1 k_ hs_.symm).2) (fun hs_ => ((Kd.R_types (Kd.R_types (Kd.R_types (Kd.R_types (Kd.R_apart' (HO224.out) (Kd.N_typed HO197.out) (by decide)) BK198.out (by decide)) BK207.out (by decide)) BK213.out (by decide)) BK214.out (by decide)).1 k_ hs_.symm).2)) (fun hn_ => (Kd.freshB (g := gb214) (o := .cells #[.int .i64 t211, .int .i64 t212] 27 (0, 0)) (by (with_reducible repeat first|apply bN|apply bD|apply bA);exact BK214.out) k_ hn_))⟩)) (below_size (by repeat (first|(with_reducible first|exact HB.out|apply eA|apply eN|apply eD|refine below_set ?_ GE198.out|refine below_set ?_ GE207.out|refine below_set ?_ GE213.out|refine below_set ?_ GE214.out)|exact HB.out))))
        have n10_ := Aside0.mk (blk_below (g := gb198) (o := .cells #[.slice Ao18 t195.length co18] 24 (0, 0)) (by (with_reducible repeat first|apply bN|apply bD|apply bA);exact BK198.out) hb)
        have n11_ := Aside0.mk (blk_below (g := gb207) (o := .cells #[.int .i64 t205, .int .i64 t206] 27 (0, 0)) (by (with_reducible repeat first|apply bN|apply bD|apply bA);exact BK207.out) hb)
        have n12_ := Aside0.mk (blk_below (g := gb213) (o := .cells #[.slice Ao31 t208.length co31] 24 (0, 0)) (by (with_reducible repeat first|apply bN|apply bD|apply bA);exact BK213.out) hb)
        have n13_ := Aside0.mk (blk_below (g := gb214) (o := .cells #[.int .i64 t211, .int .i64 t212] 27 (0, 0)) (by (with_reducible repeat first|apply bN|apply bD|apply bA);exact BK214.out) hb)
        have n14_ := Aside0.mk (below_step (by repeat (first|(with_reducible first|exact HB.out|apply eA|apply eN|apply eD|refine below_set ?_ GE198.out|refine below_set ?_ GE207.out|refine below_set ?_ GE213.out|refine below_set ?_ GE214.out)|exact HB.out)) hb)
        clear HO191
        clear HO194
        clear HO197
        clear HO201
        clear HO204
        clear HO210
        clear HO217
        clear HO221
        clear HO224
        clear BK198
        clear BK207
        clear BK213
        clear BK214
        clear HB
        have HO191 := n0_
        have HO194 := n1_
        have HO197 := n2_
        have HO201 := n3_
        have HO204 := n4_
        have HO210 := n5_
        have HO217 := n6_
        have HO221 := n7_
        have HO224 := n8_
        have HO227 := n9_
        have BK198 := n10_
        have BK207 := n11_
        have BK213 := n12_
        have BK214 := n13_
        have HB := n14_
        clear n0_ n1_ n2_ n3_ n4_ n5_ n6_ n7_ n8_ n9_ n10_ n11_ n12_ n13_ n14_
        (try clear hb)
        (try clear hb2)
        (try clear hk)
        (try clear hi)
        (try clear ho0)
        obtain ⟨Ao53, co53, eo53⟩ := Kd.N_slice HO227.out
        (first|subst eo53|(injection eo53 with f1_ f2_ f3_;have f4_ := f1_.symm;have f5_ := f3_.symm;clear f1_ f2_ f3_;subst f4_;subst f5_))
        refine hK.out _ _ ⟨(blk_cell BK207.out 0).trans rfl, (blk_cell BK207.out 1).trans rfl, (blk_cell BK214.out 0).trans rfl, (blk_cell BK214.out 1).trans rfl, (blk_cell BK213.out 0).trans rfl⟩ (fun hHeld => ?_)
        clear hK K
        refine norm_ (a' := ?_) ?_ ?_
        rotate_left
        · show Act.put _ (some 37) _ = _
          simp only [Act.put, sA, sB, sC, i64_w, i32_w]
          rfl
        refine one_ (i := 18) (N := some 38) #[true, true, true, true, true, true, true, true, true, true, true, true, true, true, true, true, true, true, true, false, false] rfl rfl (one_of HT_.out (by kernel_rfl)) (by decide) (fun K hK => ?_)
        refine goes_ Try.func22 (by kernel_rfl) rfl #[.agg #[.slice Ao31 t208.length co31], .agg #[.slice Ao53 t225.length co53]] (by rfl) rfl rfl (by (try simp only [List.map_toArray, List.map_cons, List.map_nil]);first|done|rfl|(simp only [List.length_drop, List.length_take];rfl)) ?_
        with_reducible refine (changeforgeequal_Patch.calls k _ _ t208 _ _ t225 t228 _ ?side1 ?side2 ?side3 ?side4 A9.out).mono ?_
        (case side1 => repeat (first|exact (Kd.V_reads' HO210.out).2.2|(with_reducible refine Kd.C_alloc ?_ _)|(with_reducible refine Kd.C_drewN ?_ _)|(with_reducible refine Kd.C_drew ?_)))
        (case side2 => exact (Kd.V_reads' HO210.out).2.1)
        (case side3 => repeat (first|exact (Kd.N_reads' HO227.out).2.2|(with_reducible refine Kd.C_alloc ?_ _)|(with_reducible refine Kd.C_drewN ?_ _)|(with_reducible refine Kd.C_drew ?_)))
        (case side4 => exact (Kd.N_reads' HO227.out).2.1)
        rintro e w54 ⟨rfl, hb⟩
        refine ⟨_, rfl, ?_⟩
        have n0_ := Aside0.mk (Kd.R_below (by (with_reducible repeat first|apply rA|apply rN|apply rD);exact HO191.out) hb)
        have n1_ := Aside0.mk (Kd.R_below (by (with_reducible repeat first|apply rA|apply rN|apply rD);exact HO194.out) hb)
        have n2_ := Aside0.mk (Kd.N_below (by (with_reducible repeat first|apply nA|apply nN|apply nD);exact HO197.out) hb)
        have n3_ := Aside0.mk (Kd.R_below (by (with_reducible repeat first|apply rA|apply rN|apply rD);exact HO201.out) hb)
        have n4_ := Aside0.mk (Kd.R_below (by (with_reducible repeat first|apply rA|apply rN|apply rD);exact HO204.out) hb)
        have n5_ := Aside0.mk (Kd.V_below (by (with_reducible repeat (first|apply Kd.V_alloc|apply Kd.V_drewN|apply Kd.V_drew));exact HO210.out) hb)
        have n6_ := Aside0.mk (Kd.R_below (by (with_reducible repeat first|apply rA|apply rN|apply rD);exact HO217.out) hb)
        have n7_ := Aside0.mk (Kd.R_below (by (with_reducible repeat first|apply rA|apply rN|apply rD);exact HO221.out) hb)
        have n8_ := Aside0.mk (Kd.R_below (by (with_reducible repeat first|apply rA|apply rN|apply rD);exact HO224.out) hb)
        have n9_ := Aside0.mk (Kd.N_below (by (with_reducible repeat first|apply nA|apply nN|apply nD);exact HO227.out) hb)
        have n10_ := Aside0.mk (blk_below (g := gb198) (o := .cells #[.slice Ao18 t195.length co18] 24 (0, 0)) (by (with_reducible repeat first|apply bN|apply bD|apply bA);exact BK198.out) hb)
        have n11_ := Aside0.mk (blk_below (g := gb207) (o := .cells #[.int .i64 t205, .int .i64 t206] 27 (0, 0)) (by (with_reducible repeat first|apply bN|apply bD|apply bA);exact BK207.out) hb)
        have n12_ := Aside0.mk (blk_below (g := gb213) (o := .cells #[.slice Ao31 t208.length co31] 24 (0, 0)) (by (with_reducible repeat first|apply bN|apply bD|apply bA);exact BK213.out) hb)
        have n13_ := Aside0.mk (blk_below (g := gb214) (o := .cells #[.int .i64 t211, .int .i64 t212] 27 (0, 0)) (by (with_reducible repeat first|apply bN|apply bD|apply bA);exact BK214.out) hb)
        have n14_ := Aside0.mk (below_step (by repeat (first|(with_reducible first|exact HB.out|apply eA|apply eN|apply eD|refine below_set ?_ GE198.out|refine below_set ?_ GE207.out|refine below_set ?_ GE213.out|refine below_set ?_ GE214.out)|exact HB.out)) hb)
        clear HO191
        clear HO194
        clear HO197
        clear HO201
        clear HO204
        clear HO210
        clear HO217
        clear HO221
        clear HO224
        clear HO227
        clear BK198
        clear BK207
        clear BK213
        clear BK214
        clear HB
        have HO191 := n0_
        have HO194 := n1_
        have HO197 := n2_
        have HO201 := n3_
        have HO204 := n4_
        have HO210 := n5_
        have HO217 := n6_
        have HO221 := n7_
        have HO224 := n8_
        have HO227 := n9_
        have BK198 := n10_
        have BK207 := n11_
        have BK213 := n12_
        have BK214 := n13_
        have HB := n14_
        clear n0_ n1_ n2_ n3_ n4_ n5_ n6_ n7_ n8_ n9_ n10_ n11_ n12_ n13_ n14_
        (try clear hb)
        (try clear hb2)
        (try clear hk)
        (try clear hi)
        refine hK.out _ _ ⟨(blk_cell BK207.out 0).trans rfl, (blk_cell BK207.out 1).trans rfl, (blk_cell BK214.out 0).trans rfl, (blk_cell BK214.out 1).trans rfl, (blk_cell BK213.out 0).trans rfl⟩ (fun hHeld => ?_)
        clear hK K
        refine norm_ (a' := ?_) ?_ ?_
        rotate_left
        · show Act.put _ (some 38) _ = _
          simp only [Act.put, sA, sB, sC, i64_w, i32_w]
          rfl
        refine pure_ (i := 19) (N := some 39) (v := ?_) (a' := ?_) #[true, true, true, true, true, true, true, true, true, true, true, true, true, true, true, true, true, true, true, true, false] rfl rfl (any_of HT_.out (by kernel_rfl)) (fun _ _ _ h => h) (Or.inl ⟨by rfl, ?_⟩) ?_ ?_
        rotate_left
        · intro w'
          go_simp
          with_reducible rfl
        rotate_left
        · simp only [Act.put, sA, sB, sC, i64_w, i32_w]
          rfl
        refine pure_ (i := 20) (N := some 0) (v := ?_) (a' := ?_) #[true, true, true, true, true, true, true, true, true, true, true, true, true, true, true, true, true, true, true, true, true] rfl rfl (any_of HT_.out (by kernel_rfl)) (fun _ _ _ h => h) (Or.inl ⟨by rfl, ?_⟩) ?_ ?_
        rotate_left
        · intro w'
          go_simp
          with_reducible rfl
        rotate_left
        · simp only [Act.put, sA, sB, sC, i64_w, i32_w]
          rfl
        refine done_ (done_of HT_.out (by kernel_rfl)) ?_
        try go_wp2
        go_ret
        exact ⟨by first|rfl|(simp [errW_none, errW_some] <;> rfl)|(simp [*, errW_none, errW_some] <;> rfl), by repeat (first|(with_reducible first|exact HB.out|apply eA|apply eN|apply eD|refine below_set ?_ GE198.out|refine below_set ?_ GE207.out|refine below_set ?_ GE213.out|refine below_set ?_ GE214.out)|exact HB.out)⟩
      · replace c7 := Bool.eq_false_iff.mpr c7
        subst c7
        have H1 : (some false) = some r := by rw [if_neg (show ¬ (false = true) by decide)] at H;exact H
        clear H
        have H := H1
        clear H1
        obtain rfl := Option.some.inj H
        exact absurd hrt (by decide)
    · rw [if_neg c5] at H
      have c5b0 : (t211 == 0) = false := beq_eq_false_iff_ne.mpr c5
      have c5b1 : (t211 != 0) = true := bne_iff_ne.mpr c5
      obtain rfl := Option.some.inj H
      exact absurd hrt (by decide)
  · rw [if_neg c4] at H
    have c4b0 : (t205 == 0) = false := beq_eq_false_iff_ne.mpr c4
    have c4b1 : (t205 != 0) = true := bne_iff_ne.mpr c4
    obtain rfl := Option.some.inj H
    exact absurd hrt (by decide)
end Go.Proofs.Ytdnnkhogpobjbaa.PI
