/- If no token is common to both lines, both are highlighted completely. -/
import Derived.Test.YtifkadmljokffaaPS3
import Derived.Test.YtifkadmljokffaaRst
namespace Go.Proofs.Ytifkadmljokffaa.Pure
open Go.RowKit Go.Proofs.Ytifkadmljokffaa.PS Go.Proofs.Ytifkadmljokffaa.Pre Go.Proofs.YtifkadmljokffaaW.PrintWords Go.Proofs.YtifkadmljokffaaW.PrintLast

theorem wt_split : changeforgelaw1_split.f = some true := by decide +kernel
theorem wr_rd (zs : List Pr) (i : Nat) : rd_T95 (zs.map (fun p_ => (⟨p_.1, p_.2⟩ : S95))) (i : Int) = (⟨(zs.getD i (0, 0)).1, (zs.getD i (0, 0)).2⟩ : S95) := by
  unfold rd_T95
  rw [Int.toNat_natCast, List.getD_eq_getElem?_getD, List.getD_eq_getElem?_getD, List.getElem?_map]
  cases zs[i]? <;> rfl
theorem wr_app (out s : ByteArray) (a b : Nat) : (out ++ s.extract a b).data.toList = out.data.toList ++ (s.data.toList.drop a).take (b - a) := by
  rw [ByteArray.data_append, Array.toList_append, Lib.extract_data]
theorem wr_loop (s : ByteArray) (hs : s.size ≤ 80) (zs : List Pr) (hz : zs.length ≤ 1000) (d : Nat) : ∀ (k i : Nat) (at_ : Int) (out : ByteArray), i ≤ zs.length → zs.length - i = d → d < k → 0 ≤ at_ → (out.size : Int) ≤ at_ → goodZ (zs.drop i) at_ (decide (i = 0)) s.size →
    ∃ r, changeforgelaw1_rest.l0 k s (zs.map (fun p_ => (⟨p_.1, p_.2⟩ : S95))) out at_ (i : Int) = some (r, true) ∧ r.data.toList = out.data.toList ++ outsL s.data.toList (zs.drop i) at_.toNat s.size := by
  induction d with
  | zero =>
    intro k i at_ out hi hd hk h0 ho hg
    obtain ⟨k, rfl⟩ : ∃ m, k = m + 1 := ⟨k - 1, by omega⟩
    rw [List.drop_of_length_le (by omega)] at hg ⊢
    have hg : at_ ≤ (s.size : Int) := hg
    refine ⟨out ++ s.extract at_.toNat s.size, ?_, wr_app _ _ _ _⟩
    rw [changeforgelaw1_rest.l0, if_neg (by rw [List.length_map]; omega), if_pos h0, if_pos hg, if_pos (by rw [ByteArray.size_extract]; omega)]
  | succ d ih =>
    intro k i at_ out hi hd hk h0 ho hg
    obtain ⟨k, rfl⟩ : ∃ m, k = m + 1 := ⟨k - 1, by omega⟩
    have hdr : zs.drop i = zs.getD i (0, 0) :: zs.drop (i + 1) := by
      rw [List.getD_eq_getElem?_getD, List.getElem?_eq_getElem (by omega), Option.getD_some]
      exact List.drop_eq_getElem_cons (by omega)
    rw [hdr] at hg ⊢
    generalize hze : zs.getD i (0, 0) = z at *
    obtain ⟨g1, g2, g3, g4⟩ := hg
    have g5 := goodZ_le _ _ _ _ g4
    have hrd := wr_rd zs i
    rw [hze] at hrd
    obtain ⟨r, e1, e2⟩ := ih k (i + 1) z.2 (out ++ s.extract at_.toNat z.1.toNat) (by omega) (by omega) (by omega) (by omega) (by rw [ByteArray.size_append, ByteArray.size_extract]; omega) (by rw [decide_eq_false (by omega)]; exact g4)
    rw [show ((i + 1 : Nat) : Int) = (i : Int) + 1 by omega] at e1
    refine ⟨r, ?_, ?_⟩
    · have key : (if 0 ≤ at_ then (if at_ ≤ z.1 then (if z.1 ≤ (s.size : Int) then (if out.size + (s.extract at_.toNat z.1.toNat).size ≤ 9223372036854775807 then (changeforgelaw1_rest.l0 k s (zs.map (fun p_ => (⟨p_.1, p_.2⟩ : S95))) (out ++ s.extract at_.toNat z.1.toNat) z.2 (wrap64 ((i : Int) + 1))) else (none)) else (none)) else (none)) else (none)) = some (r, true) := by
        rw [if_pos h0, if_pos g1, if_pos (by omega), if_pos (by rw [ByteArray.size_extract]; omega), w64 (by omega) (by omega)]
        exact e1
      rw [changeforgelaw1_rest.l0, if_pos (by rw [List.length_map]; omega), if_pos (by omega), hrd]
      show (if z.1 < at_ then _ else (if z.2 ≤ z.1 then _ else (if z.2 > (s.size : Int) then _ else _))) = _
      rw [if_neg (by omega), if_neg (by omega), if_neg (by omega)]
      by_cases hi0 : (i : Int) > 0
      · have := g2 (decide_eq_false (by omega))
        rw [if_pos hi0, if_neg (by show ¬ z.1 = at_; omega)]
        exact key
      · rw [if_neg hi0]
        exact key
    · rw [e2, wr_app, List.append_assoc]
      rfl
theorem wr_rest (k : Nat) (s : ByteArray) (hs : s.size ≤ 80) (zs : List Pr) (hz : zs.length ≤ 1000) (hk : 1100 ≤ k) (hg : goodZ zs 0 true s.size) : ∃ r, changeforgelaw1_rest.f k s (zs.map (fun p_ => (⟨p_.1, p_.2⟩ : S95))) = some (r, true) ∧ r.data.toList = outsL s.data.toList zs 0 s.size := by
  obtain ⟨r, e1, e2⟩ := wr_loop s hs zs hz zs.length k 0 0 ⟨#[]⟩ (by omega) (by omega) (by omega) (by omega) (by simp [ByteArray.size]) hg
  exact ⟨r, e1, e2⟩
theorem wr_same {a b : ByteArray} (h : a.data.toList = b.data.toList) : a = b := ByteArray.ext (Array.toList_inj.1 h)
theorem marks_len (sd : Int) (l : List (Int × ByteArray)) : ∀ st : Int × List Pr, (markRun sd l st).2.length ≤ st.2.length + l.length := by
  induction l with
  | nil => intro st; exact Nat.le_refl _
  | cons x r ih =>
    intro st
    obtain ⟨k, s⟩ := x
    rw [markRun, List.length_cons]
    have h1 := ih (if k = 0 then markStep st s.size false else if k = sd then markStep st s.size true else st)
    have h2 : (if k = 0 then markStep st s.size false else if k = sd then markStep st s.size true else st).2.length ≤ st.2.length + 1 := by
      split
      · exact markStep_length _ _ _
      · split
        · exact markStep_length _ _ _
        · omega
    omega
theorem marks_few (sd : Int) {a b : ByteArray} (ha : (words a).length ≤ 80) (hb : (words b).length ≤ 80) : (marksOf sd (words a) (words b)).length ≤ 1000 := by
  have h1 := marks_len sd (al (words a) (words b)) (0, [])
  have h2 := al_length _ (words a) (words b) rfl
  have h3 : (marksOf sd (words a) (words b)).length = (markRun sd (al (words a) (words b)) (0, [])).2.length := rfl
  simp only [List.length_nil] at h1
  omega
/-- Both lines without their marked ranges. -/
theorem wr_both (k : Nat) (hk : 1100 ≤ k) {a b : ByteArray} (ha : (linesFault [a]).1 = 0) (hb : (linesFault [b]).1 = 0) :
    ∃ r s, changeforgelaw1_rest.f k a ((marksOf 1 (words a) (words b)).map (fun p_ => (⟨p_.1, p_.2⟩ : S95))) = some (r, true) ∧ changeforgelaw1_rest.f k b ((marksOf 2 (words a) (words b)).map (fun p_ => (⟨p_.1, p_.2⟩ : S95))) = some (s, true) ∧ r.data.toList = flatB (keptOf (words a) (words b)) ∧ s.data.toList = flatB (keptOf (words a) (words b)) := by
  obtain ⟨m1, m2, m3, m4⟩ := marks_out a b
  obtain ⟨r, e1, e2⟩ := wr_rest k a (line_size ha) _ (marks_few 1 (words_small ha).1 (words_small hb).1) hk m1
  obtain ⟨s, e3, e4⟩ := wr_rest k b (line_size hb) _ (marks_few 2 (words_small ha).1 (words_small hb).1) hk m3
  exact ⟨r, s, e1, e3, e2.trans m2, e4.trans m4⟩
theorem wt_tok {a : ByteArray} (h : (linesFault [a]).1 = 0) : worddiff_Tokens.f a = some (words a, 0, 0) := by
  have := line_size h
  unfold worddiff_Tokens.f worddiff_split.f
  simp only [lines_Code.f, Option.bind_some, h, if_true]
  rw [if_pos (by omega)]
  rfl
theorem wt_tok_no {a : ByteArray} (h : ¬ (linesFault [a]).1 = 0) : worddiff_Tokens.f a = some ([], (linesFault [a]).1, 0) := by
  unfold worddiff_Tokens.f
  simp only [lines_Code.f, Option.bind_some]
  rw [if_neg h]
theorem wt_high (a b : ByteArray) (h : (linesFault [a]).1 = 0 ∧ (linesFault [b]).1 = 0) : worddiff_Highlight.f a b = some ((marksOf 1 (words a) (words b)).map (fun p_ => (⟨p_.1, p_.2⟩ : S95)), (marksOf 2 (words a) (words b)).map (fun p_ => (⟨p_.1, p_.2⟩ : S95)), 0, 0) := by
  unfold worddiff_Highlight.f
  rw [if_neg (fun k => k h.1), if_neg (fun k => k h.2)]
theorem wt_high_no (a b : ByteArray) (h : ¬ ((linesFault [a]).1 = 0 ∧ (linesFault [b]).1 = 0)) : ∃ x y c i, worddiff_Highlight.f a b = some (x, y, c, i) ∧ ¬ c = 0 := by
  unfold worddiff_Highlight.f
  by_cases c0 : (linesFault [a]).1 = 0
  · rw [if_neg (fun k => k c0)]
    have c1 : ¬ (linesFault [b]).1 = 0 := fun k => h ⟨c0, k⟩
    rw [if_pos c1]
    exact ⟨_, _, _, _, rfl, c1⟩
  · rw [if_pos c0]
    exact ⟨_, _, _, _, rfl, c0⟩
theorem wt_tokE (a : ByteArray) : ∃ x c i, worddiff_Tokens.f a = some (x, c, i) := by
  by_cases h : (linesFault [a]).1 = 0
  · exact ⟨_, _, _, wt_tok h⟩
  · exact ⟨_, _, _, wt_tok_no h⟩
theorem ws_in (a b : ByteArray) (x y : List S95) (A B : List ByteArray) (hA : A.length ≤ 100) (hB : B.length ≤ 100) (i : Nat) (hi : i < A.length) (d : Nat) : ∀ (k j : Nat), j ≤ B.length → B.length - j = d →
    changeforgelaw1_WorddiffSymmetricWhole.l1 (k + d + 1) a b x y A B (i : Int) (j : Int) = if (B.drop j).any (fun t => decide (rdOf ByteArray.empty A (i : Int) = t)) = true then some true else changeforgelaw1_WorddiffSymmetricWhole.l0 k a b x y A B ((i : Int) + 1) := by
  induction d with
  | zero =>
    intro k j hj hd
    rw [changeforgelaw1_WorddiffSymmetricWhole.l1, if_neg (by omega), show B.drop j = [] from List.drop_eq_nil_of_le (by omega), w64 (by omega) (by omega)]
    rfl
  | succ d ih =>
    intro k j hj hd
    have hdr : B.drop j = rdOf ByteArray.empty B (j : Int) :: B.drop (j + 1) := rdOf_drop ByteArray.empty B j (by omega)
    have := ih k (j + 1) (by omega) (by omega)
    rw [show ((j + 1 : Nat) : Int) = (j : Int) + 1 by omega] at this
    rw [show k + (d + 1) + 1 = (k + d + 1) + 1 by omega, changeforgelaw1_WorddiffSymmetricWhole.l1, if_pos (by omega), if_pos (by omega), if_pos (by omega), if_pos (by omega), w64 (n := (j : Int) + 1) (by omega) (by omega), this, hdr, List.any_cons]
    by_cases c : rdOf ByteArray.empty A (i : Int) = rdOf ByteArray.empty B (j : Int)
    · rw [if_pos (by rw [c]), decide_eq_true c, Bool.true_or, if_pos rfl]
      simp [wt_split]
    · rw [if_neg (fun h => c (toList_inj.1 h)), decide_eq_false c, Bool.false_or]
theorem ws_out (a b : ByteArray) (x y : List S95) (A B : List ByteArray) (hA : A.length ≤ 100) (hB : B.length ≤ 100) (d : Nat) : ∀ (k i : Nat), i ≤ A.length → A.length - i = d → d * 110 + 1200 ≤ k →
    ((A.drop i).any (fun s => B.any (fun t => decide (s = t))) = true ∨ ∀ k, 1200 ≤ k → changeforgelaw1_WorddiffSymmetricWhole.l0 k a b x y A B (A.length : Int) = some true) → changeforgelaw1_WorddiffSymmetricWhole.l0 k a b x y A B (i : Int) = some true := by
  induction d with
  | zero =>
    intro k i hi hd hk h
    obtain rfl : i = A.length := by omega
    rcases h with h | h
    · rw [List.drop_length] at h; cases h
    · exact h k (by omega)
  | succ d ih =>
    intro k i hi hd hk h
    obtain ⟨k, rfl⟩ : ∃ m, k = (m + B.length + 1) + 1 := ⟨k - B.length - 2, by omega⟩
    have hdr : A.drop i = rdOf ByteArray.empty A (i : Int) :: A.drop (i + 1) := rdOf_drop ByteArray.empty A i (by omega)
    have h1 := ws_in a b x y A B hA hB i (by omega) B.length k 0 (by omega) (by omega)
    rw [List.drop_zero, show ((0 : Nat) : Int) = 0 from rfl] at h1
    rw [changeforgelaw1_WorddiffSymmetricWhole.l0, if_pos (by omega), h1]
    by_cases c : (B.any (fun t => decide (rdOf ByteArray.empty A (i : Int) = t))) = true
    · rw [if_pos c]
    · rw [if_neg c]
      have h2 := ih k (i + 1) (by omega) (by omega) (by omega) (by
        rcases h with h | h
        · rw [hdr, List.any_cons, Bool.or_eq_true] at h
          exact .inl (h.resolve_left c)
        · exact .inr h)
      rw [show ((i + 1 : Nat) : Int) = (i : Int) + 1 by omega] at h2
      exact h2
theorem ws_j0 (a b : ByteArray) (x y : List S95) (A B : List ByteArray) : changeforgelaw1_WorddiffSymmetricWhole.j0 20000 a b x y A B true = some true := by
  simp only [changeforgelaw1_WorddiffSymmetricWhole.j0, if_true, wt_split, Option.bind_some]
theorem WorddiffSymmetricWhole : changeforgelaw1_WorddiffSymmetricWhole.Pure := by
  intro a0 a1 _ _
  refine ⟨20000, ?_⟩
  unfold changeforgelaw1_WorddiffSymmetricWhole.f
  by_cases h : (linesFault [a0]).1 = 0 ∧ (linesFault [a1]).1 = 0
  · rw [wt_tok h.1, wt_tok h.2, wt_high _ _ h]
    simp only [Option.bind_some, if_true]
    rw [show ((0 : Int) != 0) = false from rfl]
    have hw0 := words_small h.1
    have hw1 := words_small h.2
    simp only [changeforgelaw1_WorddiffSymmetricWhole.j0]
    rw [if_neg (by decide)]
    refine ws_out a0 a1 _ _ (words a0) (words a1) (by omega) (by omega) (words a0).length 19999 0 (by omega) (by omega) (by omega) ?_
    by_cases c : (words a0).any (fun s => (words a1).any (fun t => decide (s = t))) = true
    · exact .inl c
    · right
      intro k hk
      obtain ⟨k, rfl⟩ : ∃ m, k = m + 1 := ⟨k - 1, by omega⟩
      obtain ⟨r, s, e1, e2, e3, e4⟩ := wr_both k (by omega) h.1 h.2
      obtain ⟨k1, k2, _⟩ := keptOf_facts (words a0) (words a1)
      have hk0 : keptOf (words a0) (words a1) = [] := by
        cases hz : keptOf (words a0) (words a1) with
        | nil => rfl
        | cons z q =>
          exfalso
          rw [hz] at k1 k2
          refine c (List.any_eq_true.2 ⟨z, k1.subset (List.mem_cons_self ..), List.any_eq_true.2 ⟨z, k2.subset (List.mem_cons_self ..), decide_eq_true rfl⟩⟩)
      rw [hk0] at e3 e4
      have hr : r.toList = [] := toList_nil.2 (by have := Lib.size_eq r; rw [e3] at this; simpa [flatB] using this)
      have hs : s.toList = [] := toList_nil.2 (by have := Lib.size_eq s; rw [e4] at this; simpa [flatB] using this)
      rw [changeforgelaw1_WorddiffSymmetricWhole.l0, if_neg (by omega), e1, e2]
      simp only [Option.bind_some, if_true, hr, hs, wt_split]
  · obtain ⟨x, y, c, i, e1, e2⟩ := wt_high_no a0 a1 h
    obtain ⟨t0, c0, i0, e3⟩ := wt_tokE a0
    obtain ⟨t1, c1, i1, e4⟩ := wt_tokE a1
    rw [e1, e3, e4]
    simp only [Option.bind_some, if_neg e2]
    exact ws_j0 _ _ _ _ _ _
end Go.Proofs.Ytifkadmljokffaa.Pure
