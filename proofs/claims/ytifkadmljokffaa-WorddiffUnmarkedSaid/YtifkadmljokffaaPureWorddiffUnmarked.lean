/- The parts of two lines that are not highlighted are equal, and equal lines have no highlighted parts. -/
import Derived.Test.YtifkadmljokffaaPW3
import Derived.Test.YtifkadmljokffaaRst
namespace Go.Proofs.Ytifkadmljokffaa.Pure
open Go.RowKit Go.Proofs.Ytifkadmljokffaa.PW Go.Proofs.Ytifkadmljokffaa.Pre Go.Proofs.YtifkadmljokffaaW.PrintWords Go.Proofs.YtifkadmljokffaaW.PrintLast

theorem wt_split : changeforgelaw1_split.f = some true := by decide +kernel
theorem wr_rd (zs : List Pr) (i : Nat) : rd_T95 (zs.map (fun p_ => (⟨p_.1, p_.2⟩ : S95))) (i : Int) = (⟨(zs.getD i (0, 0)).1, (zs.getD i (0, 0)).2⟩ : S95) := by
  unfold rd_T95
  rw [Int.toNat_natCast, List.getD_eq_getElem?_getD, List.getD_eq_getElem?_getD, List.getElem?_map]
  cases zs[i]? <;> rfl
theorem wr_app (out s : ByteArray) (a b : Nat) : (out ++ s.extract a b).data.toList = out.data.toList ++ (s.data.toList.drop a).take (b - a) := by
  rw [ByteArray.data_append, Array.toList_append, Lib.extract_data]
theorem wr_loop (s : ByteArray) (hs : s.size ≤ 80) (zs : List Pr) (hz : zs.length ≤ 1000) (d : Nat) : ∀ (k i : Nat) (at_ : Int) (out : ByteArray), i ≤ zs.length → zs.length - i = d → d < k → 0 ≤ at_ → (out.size : Int) ≤ at_ → goodZ (zs.drop i) at_ (decide (i = 0)) s.size →
    ∃ r, changeforgelaw1_rest.l0 k s (zs.map (fun p_ => (⟨p_.1, p_.2⟩ : S95))) out at_ (i : Int) = some (r, true) ∧ r.data.toList = out.data.toList ++ outsL s.data.toList (zs.drop i) at_.toNat s.size := by
  induction d with
  | zero =>
    intro k i at_ out hi hd hk h0 ho hg
    obtain ⟨k, rfl⟩ : ∃ m, k = m + 1 := ⟨k - 1, by omega⟩
    rw [List.drop_of_length_le (by omega)] at hg ⊢
    have hg : at_ ≤ (s.size : Int) := hg
    refine ⟨out ++ s.extract at_.toNat s.size, ?_, wr_app _ _ _ _⟩
    rw [changeforgelaw1_rest.l0, if_neg (by rw [List.length_map]; omega), if_pos h0, if_pos hg, if_pos (by rw [ByteArray.size_extract]; omega)]
  | succ d ih =>
    intro k i at_ out hi hd hk h0 ho hg
    obtain ⟨k, rfl⟩ : ∃ m, k = m + 1 := ⟨k - 1, by omega⟩
    have hdr : zs.drop i = zs.getD i (0, 0) :: zs.drop (i + 1) := by
      rw [List.getD_eq_getElem?_getD, List.getElem?_eq_getElem (by omega), Option.getD_some]
      exact List.drop_eq_getElem_cons (by omega)
    rw [hdr] at hg ⊢
    generalize hze : zs.getD i (0, 0) = z at *
    obtain ⟨g1, g2, g3, g4⟩ := hg
    have g5 := goodZ_le _ _ _ _ g4
    have hrd := wr_rd zs i
    rw [hze] at hrd
    obtain ⟨r, e1, e2⟩ := ih k (i + 1) z.2 (out ++ s.extract at_.toNat z.1.toNat) (by omega) (by omega) (by omega) (by omega) (by rw [ByteArray.size_append, ByteArray.size_extract]; omega) (by rw [decide_eq_false (by omega)]; exact g4)
    rw [show ((i + 1 : Nat) : Int) = (i : Int) + 1 by omega] at e1
    refine ⟨r, ?_, ?_⟩
    · have key : (if 0 ≤ at_ then (if at_ ≤ z.1 then (if z.1 ≤ (s.size : Int) then (if out.size + (s.extract at_.toNat z.1.toNat).size ≤ 9223372036854775807 then (changeforgelaw1_rest.l0 k s (zs.map (fun p_ => (⟨p_.1, p_.2⟩ : S95))) (out ++ s.extract at_.toNat z.1.toNat) z.2 (wrap64 ((i : Int) + 1))) else (none)) else (none)) else (none)) else (none)) = some (r, true) := by
        rw [if_pos h0, if_pos g1, if_pos (by omega), if_pos (by rw [ByteArray.size_extract]; omega), w64 (by omega) (by omega)]
        exact e1
      rw [changeforgelaw1_rest.l0, if_pos (by rw [List.length_map]; omega), if_pos (by omega), hrd]
      show (if z.1 < at_ then _ else (if z.2 ≤ z.1 then _ else (if z.2 > (s.size : Int) then _ else _))) = _
      rw [if_neg (by omega), if_neg (by omega), if_neg (by omega)]
      by_cases hi0 : (i : Int) > 0
      · have := g2 (decide_eq_false (by omega))
        rw [if_pos hi0, if_neg (by show ¬ z.1 = at_; omega)]
        exact key
      · rw [if_neg hi0]
        exact key
    · rw [e2, wr_app, List.append_assoc]
      rfl
theorem wr_rest (k : Nat) (s : ByteArray) (hs : s.size ≤ 80) (zs : List Pr) (hz : zs.length ≤ 1000) (hk : 1100 ≤ k) (hg : goodZ zs 0 true s.size) : ∃ r, changeforgelaw1_rest.f k s (zs.map (fun p_ => (⟨p_.1, p_.2⟩ : S95))) = some (r, true) ∧ r.data.toList = outsL s.data.toList zs 0 s.size := by
  obtain ⟨r, e1, e2⟩ := wr_loop s hs zs hz zs.length k 0 0 ⟨#[]⟩ (by omega) (by omega) (by omega) (by omega) (by simp [ByteArray.size]) hg
  exact ⟨r, e1, e2⟩
theorem wr_same {a b : ByteArray} (h : a.data.toList = b.data.toList) : a = b := ByteArray.ext (Array.toList_inj.1 h)
theorem marks_len (sd : Int) (l : List (Int × ByteArray)) : ∀ st : Int × List Pr, (markRun sd l st).2.length ≤ st.2.length + l.length := by
  induction l with
  | nil => intro st; exact Nat.le_refl _
  | cons x r ih =>
    intro st
    obtain ⟨k, s⟩ := x
    rw [markRun, List.length_cons]
    have h1 := ih (if k = 0 then markStep st s.size false else if k = sd then markStep st s.size true else st)
    have h2 : (if k = 0 then markStep st s.size false else if k = sd then markStep st s.size true else st).2.length ≤ st.2.length + 1 := by
      split
      · exact markStep_length _ _ _
      · split
        · exact markStep_length _ _ _
        · omega
    omega
theorem marks_few (sd : Int) {a b : ByteArray} (ha : (words a).length ≤ 80) (hb : (words b).length ≤ 80) : (marksOf sd (words a) (words b)).length ≤ 1000 := by
  have h1 := marks_len sd (al (words a) (words b)) (0, [])
  have h2 := al_length _ (words a) (words b) rfl
  have h3 : (marksOf sd (words a) (words b)).length = (markRun sd (al (words a) (words b)) (0, [])).2.length := rfl
  simp only [List.length_nil] at h1
  omega
/-- Both lines without their marked ranges. -/
theorem wr_both (k : Nat) (hk : 1100 ≤ k) {a b : ByteArray} (ha : (linesFault [a]).1 = 0) (hb : (linesFault [b]).1 = 0) :
    ∃ r s, changeforgelaw1_rest.f k a ((marksOf 1 (words a) (words b)).map (fun p_ => (⟨p_.1, p_.2⟩ : S95))) = some (r, true) ∧ changeforgelaw1_rest.f k b ((marksOf 2 (words a) (words b)).map (fun p_ => (⟨p_.1, p_.2⟩ : S95))) = some (s, true) ∧ r.data.toList = flatB (keptOf (words a) (words b)) ∧ s.data.toList = flatB (keptOf (words a) (words b)) := by
  obtain ⟨m1, m2, m3, m4⟩ := marks_out a b
  obtain ⟨r, e1, e2⟩ := wr_rest k a (line_size ha) _ (marks_few 1 (words_small ha).1 (words_small hb).1) hk m1
  obtain ⟨s, e3, e4⟩ := wr_rest k b (line_size hb) _ (marks_few 2 (words_small ha).1 (words_small hb).1) hk m3
  exact ⟨r, s, e1, e3, e2.trans m2, e4.trans m4⟩
theorem WorddiffUnmarked : changeforgelaw1_WorddiffUnmarked.Pure := by
  intro a0 a1 _ _
  refine ⟨2000, ?_⟩
  unfold changeforgelaw1_WorddiffUnmarked.f worddiff_Highlight.f
  by_cases c0 : (linesFault [a0]).1 = 0
  · rw [if_neg (fun h => h c0)]
    by_cases c1 : (linesFault [a1]).1 = 0
    · rw [if_neg (fun h => h c1)]
      obtain ⟨r, s, e1, e2, e3, e4⟩ := wr_both 2000 (by omega) c0 c1
      have ers : r = s := wr_same (e3.trans e4.symm)
      subst ers
      simp only [Option.bind_some, e1, e2, if_true]
      by_cases c : a0.toList = a1.toList
      · obtain rfl := toList_inj.1 c
        rw [if_pos rfl, marks_self, marks_self, if_pos (by rw [w64 (by simp) (by simp)]; rfl)]
        simp [wt_split]
      · rw [if_neg c]
        simp [wt_split]
    · rw [if_pos c1]
      simp only [Option.bind_some]
      rw [if_neg c1]
      simp [wt_split]
  · rw [if_pos c0]
    simp only [Option.bind_some]
    rw [if_neg c0]
    simp [wt_split]
end Go.Proofs.Ytifkadmljokffaa.Pure
