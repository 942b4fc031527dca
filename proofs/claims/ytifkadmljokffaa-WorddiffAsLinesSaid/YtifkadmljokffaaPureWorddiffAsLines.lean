/- The tokens that are not highlighted are as many as the lines that the texts of tokens keep: they are these. -/
import Derived.Test.YtifkadmljokffaaPK6
import Derived.Test.YtifkadmljokffaaRst
namespace Go.Proofs.Ytifkadmljokffaa.Pure
open Go.RowKit Go.Proofs.Ytifkadmljokffaa.PK Go.Proofs.Ytifkadmljokffaa.Pre Go.Proofs.YtifkadmljokffaaW.PrintWords Go.Proofs.YtifkadmljokffaaW.PrintLast

theorem wt_split : changeforgelaw1_split.f = some true := by decide +kernel
theorem wr_rd (zs : List Pr) (i : Nat) : rd_T95 (zs.map (fun p_ => (⟨p_.1, p_.2⟩ : S95))) (i : Int) = (⟨(zs.getD i (0, 0)).1, (zs.getD i (0, 0)).2⟩ : S95) := by
  unfold rd_T95
  rw [Int.toNat_natCast, List.getD_eq_getElem?_getD, List.getD_eq_getElem?_getD, List.getElem?_map]
  cases zs[i]? <;> rfl
theorem wr_app (out s : ByteArray) (a b : Nat) : (out ++ s.extract a b).data.toList = out.data.toList ++ (s.data.toList.drop a).take (b - a) := by
  rw [ByteArray.data_append, Array.toList_append, Lib.extract_data]
theorem wr_loop (s : ByteArray) (hs : s.size ≤ 80) (zs : List Pr) (hz : zs.length ≤ 1000) (d : Nat) : ∀ (k i : Nat) (at_ : Int) (out : ByteArray), i ≤ zs.length → zs.length - i = d → d < k → 0 ≤ at_ → (out.size : Int) ≤ at_ → goodZ (zs.drop i) at_ (decide (i = 0)) s.size →
    ∃ r, changeforgelaw1_rest.l0 k s (zs.map (fun p_ => (⟨p_.1, p_.2⟩ : S95))) out at_ (i : Int) = some (r, true) ∧ r.data.toList = out.data.toList ++ outsL s.data.toList (zs.drop i) at_.toNat s.size := by
  induction d with
  | zero =>
    intro k i at_ out hi hd hk h0 ho hg
    obtain ⟨k, rfl⟩ : ∃ m, k = m + 1 := ⟨k - 1, by omega⟩
    rw [List.drop_of_length_le (by omega)] at hg ⊢
    have hg : at_ ≤ (s.size : Int) := hg
    refine ⟨out ++ s.extract at_.toNat s.size, ?_, wr_app _ _ _ _⟩
    rw [changeforgelaw1_rest.l0, if_neg (by rw [List.length_map]; omega), if_pos h0, if_pos hg, if_pos (by rw [ByteArray.size_extract]; omega)]
  | succ d ih =>
    intro k i at_ out hi hd hk h0 ho hg
    obtain ⟨k, rfl⟩ : ∃ m, k = m + 1 := ⟨k - 1, by omega⟩
    have hdr : zs.drop i = zs.getD i (0, 0) :: zs.drop (i + 1) := by
      rw [List.getD_eq_getElem?_getD, List.getElem?_eq_getElem (by omega), Option.getD_some]
      exact List.drop_eq_getElem_cons (by omega)
    rw [hdr] at hg ⊢
    generalize hze : zs.getD i (0, 0) = z at *
    obtain ⟨g1, g2, g3, g4⟩ := hg
    have g5 := goodZ_le _ _ _ _ g4
    have hrd := wr_rd zs i
    rw [hze] at hrd
    obtain ⟨r, e1, e2⟩ := ih k (i + 1) z.2 (out ++ s.extract at_.toNat z.1.toNat) (by omega) (by omega) (by omega) (by omega) (by rw [ByteArray.size_append, ByteArray.size_extract]; omega) (by rw [decide_eq_false (by omega)]; exact g4)
    rw [show ((i + 1 : Nat) : Int) = (i : Int) + 1 by omega] at e1
    refine ⟨r, ?_, ?_⟩
    · have key : (if 0 ≤ at_ then (if at_ ≤ z.1 then (if z.1 ≤ (s.size : Int) then (if out.size + (s.extract at_.toNat z.1.toNat).size ≤ 9223372036854775807 then (changeforgelaw1_rest.l0 k s (zs.map (fun p_ => (⟨p_.1, p_.2⟩ : S95))) (out ++ s.extract at_.toNat z.1.toNat) z.2 (wrap64 ((i : Int) + 1))) else (none)) else (none)) else (none)) else (none)) = some (r, true) := by
        rw [if_pos h0, if_pos g1, if_pos (by omega), if_pos (by rw [ByteArray.size_extract]; omega), w64 (by omega) (by omega)]
        exact e1
      rw [changeforgelaw1_rest.l0, if_pos (by rw [List.length_map]; omega), if_pos (by omega), hrd]
      show (if z.1 < at_ then _ else (if z.2 ≤ z.1 then _ else (if z.2 > (s.size : Int) then _ else _))) = _
      rw [if_neg (by omega), if_neg (by omega), if_neg (by omega)]
      by_cases hi0 : (i : Int) > 0
      · have := g2 (decide_eq_false (by omega))
        rw [if_pos hi0, if_neg (by show ¬ z.1 = at_; omega)]
        exact key
      · rw [if_neg hi0]
        exact key
    · rw [e2, wr_app, List.append_assoc]
      rfl
theorem wr_rest (k : Nat) (s : ByteArray) (hs : s.size ≤ 80) (zs : List Pr) (hz : zs.length ≤ 1000) (hk : 1100 ≤ k) (hg : goodZ zs 0 true s.size) : ∃ r, changeforgelaw1_rest.f k s (zs.map (fun p_ => (⟨p_.1, p_.2⟩ : S95))) = some (r, true) ∧ r.data.toList = outsL s.data.toList zs 0 s.size := by
  obtain ⟨r, e1, e2⟩ := wr_loop s hs zs hz zs.length k 0 0 ⟨#[]⟩ (by omega) (by omega) (by omega) (by omega) (by simp [ByteArray.size]) hg
  exact ⟨r, e1, e2⟩
theorem wr_same {a b : ByteArray} (h : a.data.toList = b.data.toList) : a = b := ByteArray.ext (Array.toList_inj.1 h)
theorem marks_len (sd : Int) (l : List (Int × ByteArray)) : ∀ st : Int × List Pr, (markRun sd l st).2.length ≤ st.2.length + l.length := by
  induction l with
  | nil => intro st; exact Nat.le_refl _
  | cons x r ih =>
    intro st
    obtain ⟨k, s⟩ := x
    rw [markRun, List.length_cons]
    have h1 := ih (if k = 0 then markStep st s.size false else if k = sd then markStep st s.size true else st)
    have h2 : (if k = 0 then markStep st s.size false else if k = sd then markStep st s.size true else st).2.length ≤ st.2.length + 1 := by
      split
      · exact markStep_length _ _ _
      · split
        · exact markStep_length _ _ _
        · omega
    omega
theorem marks_few (sd : Int) {a b : ByteArray} (ha : (words a).length ≤ 80) (hb : (words b).length ≤ 80) : (marksOf sd (words a) (words b)).length ≤ 1000 := by
  have h1 := marks_len sd (al (words a) (words b)) (0, [])
  have h2 := al_length _ (words a) (words b) rfl
  have h3 : (marksOf sd (words a) (words b)).length = (markRun sd (al (words a) (words b)) (0, [])).2.length := rfl
  simp only [List.length_nil] at h1
  omega
/-- Both lines without their marked ranges. -/
theorem wr_both (k : Nat) (hk : 1100 ≤ k) {a b : ByteArray} (ha : (linesFault [a]).1 = 0) (hb : (linesFault [b]).1 = 0) :
    ∃ r s, changeforgelaw1_rest.f k a ((marksOf 1 (words a) (words b)).map (fun p_ => (⟨p_.1, p_.2⟩ : S95))) = some (r, true) ∧ changeforgelaw1_rest.f k b ((marksOf 2 (words a) (words b)).map (fun p_ => (⟨p_.1, p_.2⟩ : S95))) = some (s, true) ∧ r.data.toList = flatB (keptOf (words a) (words b)) ∧ s.data.toList = flatB (keptOf (words a) (words b)) := by
  obtain ⟨m1, m2, m3, m4⟩ := marks_out a b
  obtain ⟨r, e1, e2⟩ := wr_rest k a (line_size ha) _ (marks_few 1 (words_small ha).1 (words_small hb).1) hk m1
  obtain ⟨s, e3, e4⟩ := wr_rest k b (line_size hb) _ (marks_few 2 (words_small ha).1 (words_small hb).1) hk m3
  exact ⟨r, s, e1, e3, e2.trans m2, e4.trans m4⟩
theorem wt_tok {a : ByteArray} (h : (linesFault [a]).1 = 0) : worddiff_Tokens.f a = some (words a, 0, 0) := by
  have := line_size h
  unfold worddiff_Tokens.f worddiff_split.f
  simp only [lines_Code.f, Option.bind_some, h, if_true]
  rw [if_pos (by omega)]
  rfl
theorem wt_tok_no {a : ByteArray} (h : ¬ (linesFault [a]).1 = 0) : worddiff_Tokens.f a = some ([], (linesFault [a]).1, 0) := by
  unfold worddiff_Tokens.f
  simp only [lines_Code.f, Option.bind_some]
  rw [if_neg h]
theorem wt_high (a b : ByteArray) (h : (linesFault [a]).1 = 0 ∧ (linesFault [b]).1 = 0) : worddiff_Highlight.f a b = some ((marksOf 1 (words a) (words b)).map (fun p_ => (⟨p_.1, p_.2⟩ : S95)), (marksOf 2 (words a) (words b)).map (fun p_ => (⟨p_.1, p_.2⟩ : S95)), 0, 0) := by
  unfold worddiff_Highlight.f
  rw [if_neg (fun k => k h.1), if_neg (fun k => k h.2)]
theorem wt_high_no (a b : ByteArray) (h : ¬ ((linesFault [a]).1 = 0 ∧ (linesFault [b]).1 = 0)) : ∃ x y c i, worddiff_Highlight.f a b = some (x, y, c, i) ∧ ¬ c = 0 := by
  unfold worddiff_Highlight.f
  by_cases c0 : (linesFault [a]).1 = 0
  · rw [if_neg (fun k => k c0)]
    have c1 : ¬ (linesFault [b]).1 = 0 := fun k => h ⟨c0, k⟩
    rw [if_pos c1]
    exact ⟨_, _, _, _, rfl, c1⟩
  · rw [if_pos c0]
    exact ⟨_, _, _, _, rfl, c0⟩
theorem wt_tokE (a : ByteArray) : ∃ x c i, worddiff_Tokens.f a = some (x, c, i) := by
  by_cases h : (linesFault [a]).1 = 0
  · exact ⟨_, _, _, wt_tok h⟩
  · exact ⟨_, _, _, wt_tok_no h⟩
theorem flatB_sub {l m : List ByteArray} (h : List.Sublist l m) : (flatB l).length ≤ (flatB m).length := by
  induction h with
  | slnil => exact Nat.le_refl _
  | cons x _ ih => rw [flatB_cons, List.length_append]; omega
  | cons_cons x _ ih => rw [flatB_cons, flatB_cons, List.length_append, List.length_append]; omega
theorem wa_j0 (a : ByteArray) (x : List S95) (c : List ByteArray) : changeforgelaw1_WorddiffAsLines.j0 2000 a x c true = some true := by
  simp only [changeforgelaw1_WorddiffAsLines.j0, if_true, wt_split, Option.bind_some]
theorem WorddiffAsLines : changeforgelaw1_WorddiffAsLines.Pure := by
  intro a0 a1 _ _
  refine ⟨2000, ?_⟩
  unfold changeforgelaw1_WorddiffAsLines.f
  by_cases h : (linesFault [a0]).1 = 0 ∧ (linesFault [a1]).1 = 0
  · rw [wt_tok h.1, wt_tok h.2, wt_high _ _ h]
    simp only [Option.bind_some, diff_Common.f, if_true]
    unfold commonLines
    rcases twoFault_or (words a0) (words a1) with z | z
    · rw [if_pos z]
      obtain ⟨r, s, e1, e2, e3, e4⟩ := wr_both 1999 (by omega) h.1 h.2
      obtain ⟨k1, k2, k3⟩ := keptOf_facts (words a0) (words a1)
      have n1 := k1.length_le
      have hw := words_small h.1
      have hr : r = flatStr (keptOf (words a0) (words a1)) := wr_same (by rw [e3]; simp [flatStr, mkStr, flatB])
      have hrs : r.size ≤ 80 := by
        have h1 := congrArg List.length e3
        have h2 : (flatB (keptOf (words a0) (words a1))).length ≤ (flatB (words a0)).length := flatB_sub k1
        rw [flatB_words] at h2
        have h3 := Lib.size_eq r
        have h4 := Lib.size_eq a0
        have h5 := line_size h.1
        omega
      have ht : changeforgelaw1_together.f (keptOf (words a0) (words a1)) = some r := by
        unfold changeforgelaw1_together.f
        rw [if_pos ⟨by omega, by rw [← hr]; omega⟩, hr]
      show changeforgelaw1_WorddiffAsLines.j0 2000 a0 _ (keptOf (words a0) (words a1)) ((0 : Int) != 0) = some true
      rw [show ((0 : Int) != 0) = false from rfl]
      simp only [changeforgelaw1_WorddiffAsLines.j0, e1, Option.bind_some, ht, if_true, wt_split]
      rfl
    · have e : ¬ twoFault (words a0) (words a1) = (0, 0) := fun h => z (congrArg Prod.fst h)
      simp only [if_neg e]
      rw [show ((twoFault (words a0) (words a1)).1 != 0) = true by simpa using z]
      exact wa_j0 _ _ _
  · obtain ⟨x, y, c, i, e1, e2⟩ := wt_high_no a0 a1 h
    obtain ⟨t0, c0, i0, e3⟩ := wt_tokE a0
    obtain ⟨t1, c1, i1, e4⟩ := wt_tokE a1
    rw [e1, e3, e4]
    simp only [Option.bind_some, diff_Common.f, if_neg e2]
    repeat (first | exact wa_j0 _ _ _ | split)
end Go.Proofs.Ytifkadmljokffaa.Pure
