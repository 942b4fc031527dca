/- For all lines, the functions of package worddiff return the specified results. -/
import Derived.Test.YtifkadmljokffaaPX7
import Derived.Test.YtifkadmljokffaaRng
namespace Go.Proofs.Ytifkadmljokffaa.Pure
open Go.RowKit Go.Proofs.Ytifkadmljokffaa.PX Go.Proofs.Ytifkadmljokffaa.Pre Go.Proofs.YtifkadmljokffaaW.PrintWords Go.Proofs.YtifkadmljokffaaW.PrintLast

theorem wt_split : changeforgelaw1_split.f = some true := by decide +kernel
theorem wr_rd (zs : List Pr) (i : Nat) : rd_T95 (zs.map (fun p_ => (⟨p_.1, p_.2⟩ : S95))) (i : Int) = (⟨(zs.getD i (0, 0)).1, (zs.getD i (0, 0)).2⟩ : S95) := by
  unfold rd_T95
  rw [Int.toNat_natCast, List.getD_eq_getElem?_getD, List.getD_eq_getElem?_getD, List.getElem?_map]
  cases zs[i]? <;> rfl
theorem wr_same {a b : ByteArray} (h : a.data.toList = b.data.toList) : a = b := ByteArray.ext (Array.toList_inj.1 h)
theorem marks_len (sd : Int) (l : List (Int × ByteArray)) : ∀ st : Int × List Pr, (markRun sd l st).2.length ≤ st.2.length + l.length := by
  induction l with
  | nil => intro st; exact Nat.le_refl _
  | cons x r ih =>
    intro st
    obtain ⟨k, s⟩ := x
    rw [markRun, List.length_cons]
    have h1 := ih (if k = 0 then markStep st s.size false else if k = sd then markStep st s.size true else st)
    have h2 : (if k = 0 then markStep st s.size false else if k = sd then markStep st s.size true else st).2.length ≤ st.2.length + 1 := by
      split
      · exact markStep_length _ _ _
      · split
        · exact markStep_length _ _ _
        · omega
    omega
theorem marks_few (sd : Int) {a b : ByteArray} (ha : (words a).length ≤ 80) (hb : (words b).length ≤ 80) : (marksOf sd (words a) (words b)).length ≤ 1000 := by
  have h1 := marks_len sd (al (words a) (words b)) (0, [])
  have h2 := al_length _ (words a) (words b) rfl
  have h3 : (marksOf sd (words a) (words b)).length = (markRun sd (al (words a) (words b)) (0, [])).2.length := rfl
  simp only [List.length_nil] at h1
  omega
theorem wt_tok {a : ByteArray} (h : (linesFault [a]).1 = 0) : worddiff_Tokens.f a = some (words a, 0, 0) := by
  have := line_size h
  unfold worddiff_Tokens.f worddiff_split.f
  simp only [lines_Code.f, Option.bind_some, h, if_true]
  rw [if_pos (by omega)]
  rfl
theorem wt_tok_no {a : ByteArray} (h : ¬ (linesFault [a]).1 = 0) : worddiff_Tokens.f a = some ([], (linesFault [a]).1, 0) := by
  unfold worddiff_Tokens.f
  simp only [lines_Code.f, Option.bind_some]
  rw [if_neg h]
theorem wt_high (a b : ByteArray) (h : (linesFault [a]).1 = 0 ∧ (linesFault [b]).1 = 0) : worddiff_Highlight.f a b = some ((marksOf 1 (words a) (words b)).map (fun p_ => (⟨p_.1, p_.2⟩ : S95)), (marksOf 2 (words a) (words b)).map (fun p_ => (⟨p_.1, p_.2⟩ : S95)), 0, 0) := by
  unfold worddiff_Highlight.f
  rw [if_neg (fun k => k h.1), if_neg (fun k => k h.2)]
theorem wt_high_no (a b : ByteArray) (h : ¬ ((linesFault [a]).1 = 0 ∧ (linesFault [b]).1 = 0)) : ∃ x y c i, worddiff_Highlight.f a b = some (x, y, c, i) ∧ ¬ c = 0 := by
  unfold worddiff_Highlight.f
  by_cases c0 : (linesFault [a]).1 = 0
  · rw [if_neg (fun k => k c0)]
    have c1 : ¬ (linesFault [b]).1 = 0 := fun k => h ⟨c0, k⟩
    rw [if_pos c1]
    exact ⟨_, _, _, _, rfl, c1⟩
  · rw [if_pos c0]
    exact ⟨_, _, _, _, rfl, c0⟩
theorem wt_tokE (a : ByteArray) : ∃ x c i, worddiff_Tokens.f a = some (x, c, i) := by
  by_cases h : (linesFault [a]).1 = 0
  · exact ⟨_, _, _, wt_tok h⟩
  · exact ⟨_, _, _, wt_tok_no h⟩
theorem flatB_sub {l m : List ByteArray} (h : List.Sublist l m) : (flatB l).length ≤ (flatB m).length := by
  induction h with
  | slnil => exact Nat.le_refl _
  | cons x _ ih => rw [flatB_cons, List.length_append]; omega
  | cons_cons x _ ih => rw [flatB_cons, flatB_cons, List.length_append, List.length_append]; omega
theorem wm_kind (k : Nat) (c : Int) : changeforgeref1_kind.f (k + 1) c = some (cls c) := by
  unfold changeforgeref1_kind.f cls
  simp only [changeforgeref1_kind.j0, if_true, beq_iff_eq]
  repeat' split
  all_goals (first | rfl | (exfalso; omega))
theorem wm_cls (c : Int) : cls c = 0 ∨ cls c = 1 ∨ cls c = 2 := by
  unfold cls
  split
  · exact .inl rfl
  · split
    · exact .inr (.inl rfl)
    · exact .inr (.inr rfl)
theorem wm_cut (s : ByteArray) (n : Nat) (h : n < s.size) : words (s.extract n s.size) = wordsAt s n (n + 1) := by
  obtain ⟨c, _, hd⟩ := bt_drop s n h
  have e : (s.extract n s.size).data.toList = c :: s.data.toList.drop (n + 1) := by
    rw [Lib.extract_data, hd]
    refine List.take_of_length_le ?_
    have h1 := congrArg List.length hd
    rw [List.length_drop] at h1
    have := Lib.size_eq s
    omega
  unfold words wordsAt
  rw [e, hd, show n + 1 - n = 1 by omega, show n + 1 - 1 = n by omega]
  have hg : s.data.toList.getD n 0 = c := by
    have h0 : (s.data.toList.drop n)[0]? = some c := by rw [hd]; rfl
    rw [List.getElem?_drop, Nat.add_zero] at h0
    rw [List.getD_eq_getElem?_getD, h0]
    rfl
  rw [hg]
  rfl
theorem wm_tok (m : Nat) : ∀ (s : ByteArray), s.size = m → ∀ (k : Nat) (out : List ByteArray), 201 * m + 3 ≤ k → out.length + m ≤ 1000 → changeforgeref1_Tokens.l0 k s out = some (out ++ words s) := by
  induction m using Nat.strongRecOn with
  | _ m ih =>
    intro s hs k out hk ho
    obtain ⟨k, rfl⟩ : ∃ q, k = q + 1 := ⟨k - 1, by omega⟩
    rw [changeforgeref1_Tokens.l0]
    by_cases h0 : 0 < s.size
    · rw [if_pos (by omega), words_start s h0]
      have go : ∀ (d n k : Nat), 1 ≤ n → n ≤ s.size → s.size - n = d → 201 * (s.size - n) + 10 ≤ k → cls (bt s ((n - 1 : Nat) : Int)) = cls (bt s 0) → changeforgeref1_Tokens.l1 k s out (n : Int) = some (out ++ wordsAt s 0 n) := by
        intro d
        induction d with
        | zero =>
          intro n k hn1 hn2 hd hk hc
          obtain ⟨k, rfl⟩ : ∃ q, k = q + 1 := ⟨k - 1, by omega⟩
          obtain rfl : n = s.size := by omega
          rw [changeforgeref1_Tokens.l1, if_neg (by omega), if_pos (by omega), if_pos (by omega), if_pos (by omega), Int.toNat_natCast, wordsAt_end s 0 (by omega)]
          have e : (s.extract s.size s.size).size = 0 := by rw [ByteArray.size_extract]; omega
          rw [ih 0 (by omega) _ e k _ (by omega) (by rw [List.length_append, List.length_singleton]; omega), words_nil _ e, List.append_nil]
        | succ d ihd =>
          intro n k hn1 hn2 hd hk hc
          obtain ⟨k, rfl⟩ : ∃ q, k = q + 2 := ⟨k - 2, by omega⟩
          have hlt : n < s.size := by omega
          have hstep := wordsAt_step s 0 n (by omega) hlt
          have cut : (if (0 : Int) ≤ (n : Int) then (if (n : Int) ≤ (s.size : Int) then (if out.length < 8796093022208 then (changeforgeref1_Tokens.l0 (k + 1) (s.extract ((n : Int)).toNat s.size) (out ++ [s.extract 0 ((n : Int)).toNat])) else (none)) else (none)) else (none)) = some (out ++ s.extract 0 n :: wordsAt s n (n + 1)) := by
            rw [if_pos (by omega), if_pos (by omega), if_pos (by omega), Int.toNat_natCast, ih (s.size - n) (by omega) (s.extract n s.size) (by rw [ByteArray.size_extract]; omega) (k + 1) _ (by omega) (by rw [List.length_append, List.length_singleton]; omega), wm_cut s n hlt, List.append_assoc]
            rfl
          rw [changeforgeref1_Tokens.l1, if_pos (by omega), if_pos (by omega), wm_kind k, Option.bind_some]
          have c3 := wm_cls (bt s 0)
          have c4 := wm_cls (bt s (n : Int))
          by_cases c1 : cls (bt s 0) < 2
          · rw [if_pos c1, if_pos (by omega), wm_kind k, Option.bind_some, Option.bind_some]
            by_cases c2 : cls (bt s (n : Int)) = cls (bt s 0)
            · rw [if_pos c2, w64 (by omega) (by omega), hstep, if_neg (by
                intro h
                rcases h with h | h
                · omega
                · exact h (by rw [c2]; exact hc.symm))]
              have := ihd (n + 1) (k + 1) (by omega) (by omega) (by omega) (by omega) (by rw [Nat.add_sub_cancel]; exact c2)
              rw [show ((n + 1 : Nat) : Int) = (n : Int) + 1 by omega] at this
              exact this
            · have hs2 : wordsAt s 0 n = s.extract 0 n :: wordsAt s n (n + 1) := by rw [hstep, if_pos (.inr (by intro h; exact c2 (by rw [h]; exact hc)))]
              rw [if_neg c2, hs2]
              have cut2 := cut
              rw [if_pos (show (0 : Int) ≤ (n : Int) by omega)] at cut2
              exact cut2
          · have hs2 : wordsAt s 0 n = s.extract 0 n :: wordsAt s n (n + 1) := by
              rw [hstep]
              by_cases c2 : cls (bt s (n : Int)) = 2
              · rw [if_pos (.inl c2)]
              · rw [if_pos (.inr (fun h => by rw [hc] at h; omega))]
            rw [if_neg c1, hs2]
            exact cut
      exact go (s.size - 1) 1 k (by omega) (by omega) rfl (by omega) rfl
    · rw [if_neg (by omega), words_nil s (by omega), List.append_nil]
def mk79 (x : Int × ByteArray) : S79 := ⟨x.1, x.2⟩
theorem wm_row (A B : List ByteArray) (q p : Nat) (hq : q ≤ B.length) (hp : p ≤ A.length) : rd (rd_L2 (lcsTab B A) (q : Int)) (p : Int) = (lcs (B.drop q) (A.drop p) : Int) := by
  have h := tab_rd B.length A.length (fun p q => (lcs (B.drop p) (A.drop q) : Int)) q p hq hp
  unfold rd_L2
  rw [Int.toNat_natCast]
  exact h
theorem wm_rowlen (A B : List ByteArray) (q : Nat) (hq : q ≤ B.length) : (rd_L2 (lcsTab B A) (q : Int)).length = A.length + 1 := by
  unfold rd_L2
  rw [Int.toNat_natCast, show (lcsTab B A).getD q [] = (List.range (A.length + 1)).map (fun i => (lcs (B.drop q) (A.drop i) : Int)) from tab_row _ _ _ _ hq]
  simp
theorem wm_align (A B : List ByteArray) (hA : A.length ≤ 1000) (hB : B.length ≤ 1000) (d : Nat) : ∀ (k p q : Nat) (out : List S79), p ≤ A.length → q ≤ B.length → (A.length - p) + (B.length - q) = d → 4 * d + 4 ≤ k → out.length ≤ p + q →
    changeforgeref1_Align.l0 k A B (lcsTab B A) out (p : Int) (q : Int) = some (out ++ (al (A.drop p) (B.drop q)).map mk79) := by
  induction d using Nat.strongRecOn with
  | _ d ih =>
    intro k p q out hp hq hd hk ho
    obtain ⟨k, rfl⟩ : ∃ m, k = m + 3 := ⟨k - 3, by omega⟩
    have hT : (lcsTab B A).length = B.length + 1 := tab_length _ _ _
    have ep : ((p + 1 : Nat) : Int) = (p : Int) + 1 := by omega
    have eq_ : ((q + 1 : Nat) : Int) = (q : Int) + 1 := by omega
    by_cases hend : p = A.length ∧ q = B.length
    · rw [changeforgeref1_Align.l0, if_neg (by omega), changeforgeref1_Align.j1, if_neg (by rw [decide_eq_true_iff]; omega), hend.1, hend.2, List.drop_length, List.drop_length, al_nil]
      simp
    · have start : changeforgeref1_Align.l0 (k + 3) A B (lcsTab B A) out (p : Int) (q : Int) = (if (p : Int) < (A.length : Int) then (if (q : Int) < (B.length : Int) then (if 0 ≤ (p : Int) then (if 0 ≤ (q : Int) then (changeforgeref1_Align.j2 (k + 1) A B (lcsTab B A) out (p : Int) (q : Int) ((rdOf ByteArray.empty A (p : Int)).toList == (rdOf ByteArray.empty B (q : Int)).toList)) else (none)) else (none)) else (changeforgeref1_Align.j2 (k + 1) A B (lcsTab B A) out (p : Int) (q : Int) false)) else (changeforgeref1_Align.j2 (k + 1) A B (lcsTab B A) out (p : Int) (q : Int) false)) := by
        rw [changeforgeref1_Align.l0]
        by_cases h : (p : Int) < (A.length : Int)
        · rw [if_pos h, changeforgeref1_Align.j1, if_pos rfl]
        · rw [if_neg h, changeforgeref1_Align.j1, if_pos (by rw [decide_eq_true_iff]; omega)]
      have del : p < A.length → al (A.drop p) (B.drop q) = (1, rdOf ByteArray.empty A (p : Int)) :: al (A.drop (p + 1)) (B.drop q) → changeforgeref1_Align.l0 k A B (lcsTab B A) (out ++ [(⟨1, rdOf ByteArray.empty A (p : Int)⟩ : S79)]) (wrap64 ((p : Int) + 1)) (q : Int) = some (out ++ (al (A.drop p) (B.drop q)).map mk79) := fun h e => by
        rw [w64 (by omega) (by omega), ← ep, ih (d - 1) (by omega) k (p + 1) q _ (by omega) hq (by omega) (by omega) (by rw [List.length_append, List.length_singleton]; omega), e, List.append_assoc]
        rfl
      have ins : q < B.length → al (A.drop p) (B.drop q) = (2, rdOf ByteArray.empty B (q : Int)) :: al (A.drop p) (B.drop (q + 1)) → changeforgeref1_Align.l0 k A B (lcsTab B A) (out ++ [(⟨2, rdOf ByteArray.empty B (q : Int)⟩ : S79)]) (p : Int) (wrap64 ((q : Int) + 1)) = some (out ++ (al (A.drop p) (B.drop q)).map mk79) := fun h e => by
        rw [w64 (by omega) (by omega), ← eq_, ih (d - 1) (by omega) k p (q + 1) _ hp (by omega) (by omega) (by omega) (by rw [List.length_append, List.length_singleton]; omega), e, List.append_assoc]
        rfl
      have no : (p < A.length → q < B.length → ¬ rdOf ByteArray.empty A (p : Int) = rdOf ByteArray.empty B (q : Int)) → changeforgeref1_Align.j2 (k + 1) A B (lcsTab B A) out (p : Int) (q : Int) false = some (out ++ (al (A.drop p) (B.drop q)).map mk79) := fun hne => by
        rw [changeforgeref1_Align.j2, if_neg (by decide)]
        by_cases hqe : q = B.length
        · have hp' : p < A.length := by omega
          have e : al (A.drop p) (B.drop q) = (1, rdOf ByteArray.empty A (p : Int)) :: al (A.drop (p + 1)) (B.drop q) := by
            rw [rdOf_drop ByteArray.empty A p hp', List.drop_of_length_le (show B.length ≤ q by omega), al_del]
          rw [if_pos (by omega), if_pos (by omega), if_pos (by omega), if_pos (by omega)]
          exact del hp' e
        · have hq' : q < B.length := by omega
          rw [if_neg (by omega)]
          by_cases hp' : p < A.length
          · have e0 := rdOf_drop ByteArray.empty A p hp'
            have e1 := rdOf_drop ByteArray.empty B q hq'
            have r1 := wm_row A B q (p + 1) hq (by omega)
            have r2 := wm_row A B (q + 1) p (by omega) hp
            rw [ep] at r1
            rw [eq_] at r2
            have hl1 := wm_rowlen A B q hq
            have hl2 := wm_rowlen A B (q + 1) (by omega)
            rw [eq_] at hl2
            rw [if_pos (by omega), if_pos (by omega), if_pos (by omega), w64 (n := (p : Int) + 1) (by omega) (by omega), w64 (n := (q : Int) + 1) (by omega) (by omega), if_pos (by omega), if_pos (by omega), if_pos (by omega), if_pos (by omega), if_pos (by omega), if_pos (by omega), r1, r2]
            rw [lcs_comm (B.drop q), lcs_comm (B.drop (q + 1))]
            have e := al_ne (hne hp' hq') (A.drop (p + 1)) (B.drop (q + 1))
            rw [← e0, ← e1] at e
            by_cases c : lcs (A.drop p) (B.drop (q + 1)) ≤ lcs (A.drop (p + 1)) (B.drop q)
            · rw [if_pos c] at e
              rw [if_pos (by omega), if_pos (by omega)]
              have := del hp' e
              rw [w64 (n := (p : Int) + 1) (by omega) (by omega)] at this
              exact this
            · rw [if_neg c] at e
              rw [if_neg (by omega), if_pos (by omega), if_pos (by omega)]
              have := ins hq' e
              rw [w64 (n := (q : Int) + 1) (by omega) (by omega)] at this
              exact this
          · have e : al (A.drop p) (B.drop q) = (2, rdOf ByteArray.empty B (q : Int)) :: al (A.drop p) (B.drop (q + 1)) := by
              rw [rdOf_drop ByteArray.empty B q hq', List.drop_of_length_le (show A.length ≤ p by omega), al_ins]
            rw [if_neg (by omega), if_pos (by omega), if_pos (by omega), if_pos (by omega)]
            exact ins hq' e
      rw [start]
      by_cases hp' : p < A.length
      · rw [if_pos (by omega)]
        by_cases hq' : q < B.length
        · rw [if_pos (by omega), if_pos (by omega), if_pos (by omega), beq_toList]
          by_cases c : rdOf ByteArray.empty A (p : Int) = rdOf ByteArray.empty B (q : Int)
          · rw [decide_eq_true c, changeforgeref1_Align.j2, if_pos rfl, if_pos (by omega), if_pos (by omega), if_pos (by omega), w64 (by omega) (by omega), w64 (by omega) (by omega), ← ep, ← eq_, ih (d - 2) (by omega) k (p + 1) (q + 1) _ (by omega) (by omega) (by omega) (by omega) (by rw [List.length_append, List.length_singleton]; omega), al_keep_at hp' hq' c, List.append_assoc]
            rfl
          · rw [decide_eq_false c]
            exact no (fun _ _ => c)
        · rw [if_neg (by omega)]
          exact no (fun _ h => absurd h hq')
      · rw [if_neg (by omega)]
        exact no (fun h => absurd h hp')
theorem wm_bind (k : Nat) (fl : List Bool) (zs : List Pr) (i : Nat) (hi : i ≤ 1000) (hz : zs.length ≤ 1000) : ((some (zs.map (fun p_ => (⟨p_.1, p_.2⟩ : S95)) ++ [(⟨(i : Int), (i : Int)⟩ : S95)] : List (S95))).bind fun y185 => (if 0 ≤ (wrap64 ((y185.length : Int) - 1)) then (if (wrap64 ((y185.length : Int) - 1)) < (y185.length : Int) then (changeforgeref1_ranges.l0 k fl (y185.set ((wrap64 ((y185.length : Int) - 1)) : Int).toNat (⟨(rd_T95 y185 (wrap64 ((y185.length : Int) - 1))).f0, wrap64 ((i : Int) + 1)⟩ : S95)) (wrap64 ((i : Int) + 1))) else (none)) else (none))) = changeforgeref1_ranges.l0 k fl ((zs ++ [((i : Int), (i : Int) + 1)]).map (fun p_ => (⟨p_.1, p_.2⟩ : S95))) ((i : Int) + 1) := by
  have e : zs.map (fun p_ => (⟨p_.1, p_.2⟩ : S95)) ++ [(⟨(i : Int), (i : Int)⟩ : S95)] = (zs ++ [((i : Int), (i : Int))]).map (fun p_ => (⟨p_.1, p_.2⟩ : S95)) := by rw [List.map_append]; rfl
  have hl : (((zs ++ [((i : Int), (i : Int))]).map (fun p_ => (⟨p_.1, p_.2⟩ : S95))).length : Int) = (zs.length : Int) + 1 := by simp
  rw [e, Option.bind_some, hl, w64 (n := (zs.length : Int) + 1 - 1) (by omega) (by omega), if_pos (by omega), if_pos (by omega), w64 (by omega) (by omega)]
  have h1 : ((zs.length : Int) + 1 - 1) = ((zs.length : Nat) : Int) := by omega
  rw [h1, wr_rd, Int.toNat_natCast]
  have h2 : (zs ++ [((i : Int), (i : Int))]).getD zs.length (0, 0) = ((i : Int), (i : Int)) := by
    have := getD_append_last zs ((i : Int), (i : Int)) (0, 0)
    rwa [List.length_append, List.length_singleton, Nat.add_sub_cancel] at this
  have h3 : (zs ++ [((i : Int), (i : Int))]).set zs.length ((i : Int), (i : Int) + 1) = zs ++ [((i : Int), (i : Int) + 1)] := by
    have := set_append_last zs ((i : Int), (i : Int)) ((i : Int), (i : Int) + 1)
    rwa [List.length_append, List.length_singleton, Nat.add_sub_cancel] at this
  rw [h2, ← h3, List.map_set]
theorem wm_ranges_loop (fl : List Bool) (hf : fl.length ≤ 1000) (d : Nat) : ∀ (k i : Nat) (zs : List Pr), i ≤ fl.length → fl.length - i = d → d < k → zs.length ≤ i →
    ((0 < zs.length ∧ (zs.getD (zs.length - 1) (0, 0)).2 = (i : Int)) ↔ (0 < i ∧ rdOf false fl ((i : Int) - 1) = true)) → (0 < zs.length → (zs.getD (zs.length - 1) (0, 0)).2 ≤ (i : Int)) →
    changeforgeref1_ranges.l0 k fl (zs.map (fun p_ => (⟨p_.1, p_.2⟩ : S95))) (i : Int) = some ((markB (fl.drop i) ((i : Int), zs)).2.map (fun p_ => (⟨p_.1, p_.2⟩ : S95))) := by
  induction d with
  | zero =>
    intro k i zs hi hd hk hz hv hw
    obtain ⟨k, rfl⟩ : ∃ m, k = m + 1 := ⟨k - 1, by omega⟩
    rw [changeforgeref1_ranges.l0, if_neg (by omega), List.drop_of_length_le (by omega)]
    rfl
  | succ d ih =>
    intro k i zs hi hd hk hz hv hw
    obtain ⟨k, rfl⟩ : ∃ m, k = m + 1 := ⟨k - 1, by omega⟩
    have hdr : fl.drop i = rdOf false fl (i : Int) :: fl.drop (i + 1) := rdOf_drop false fl i (by omega)
    have e1 : ((i + 1 : Nat) : Int) = (i : Int) + 1 := by omega
    have next : ∀ m, rdOf false fl (i : Int) = m → changeforgeref1_ranges.l0 k fl ((markStep ((i : Int), zs) 1 m).2.map (fun p_ => (⟨p_.1, p_.2⟩ : S95))) ((i : Int) + 1) = some ((markB (fl.drop (i + 1)) (markStep ((i : Int), zs) 1 m)).2.map (fun p_ => (⟨p_.1, p_.2⟩ : S95))) := fun m hm => by
      have hlen := markStep_length ((i : Int), zs) 1 m
      have := ih k (i + 1) (markStep ((i : Int), zs) 1 m).2 (by omega) (by omega) (by omega) (by have h9 : (markStep ((i : Int), zs) 1 m).2.length ≤ zs.length + 1 := hlen; omega) (by
        rw [e1, show ((i : Int) + 1 - 1) = (i : Int) by omega, hm]
        cases m with
        | true =>
          have st := step_true ((i : Int), zs) 1
          exact ⟨fun _ => ⟨by omega, rfl⟩, fun _ => st⟩
        | false =>
          refine ⟨fun h => ?_, fun h => by cases h.2⟩
          have h2 : 0 < zs.length ∧ (zs.getD (zs.length - 1) (0, 0)).2 = (i : Int) + 1 := h
          have := hw h2.1
          omega) (by
        cases m with
        | true =>
          intro _
          have st := (step_true ((i : Int), zs) 1).2
          rw [st, e1]
          exact Int.le_refl _
        | false =>
          intro h
          have h2 : (zs.getD (zs.length - 1) (0, 0)).2 ≤ (i : Int) := hw h
          show (zs.getD (zs.length - 1) (0, 0)).2 ≤ ((i + 1 : Nat) : Int)
          omega)
      rw [e1] at this
      exact this
    rw [changeforgeref1_ranges.l0, if_pos (by omega), if_pos (by omega), hdr, markB]
    by_cases hb : rdOf false fl (i : Int) = true
    · rw [if_pos hb, hb]
      by_cases h0 : (i : Int) = 0
      · have hz0 : zs.length = 0 := by omega
        have e2 : (markStep ((i : Int), zs) 1 true).2 = zs ++ [((i : Int), (i : Int) + 1)] := by
          unfold markStep
          rw [if_pos rfl, if_neg (fun h => by have h9 : 0 < zs.length := h.1; omega)]
        rw [if_pos h0, if_pos (by rw [List.length_map]; omega), wm_bind k fl zs i (by omega) (by omega), ← e2]
        exact next true hb
      · rw [if_neg h0, w64 (n := (i : Int) - 1) (by omega) (by omega), if_pos (by omega), if_pos (by omega)]
        by_cases hp : rdOf false fl ((i : Int) - 1) = true
        · have hc := hv.2 ⟨by omega, hp⟩
          have e2 : (markStep ((i : Int), zs) 1 true).2 = zs.set (zs.length - 1) ((zs.getD (zs.length - 1) (0, 0)).1, (i : Int) + 1) := by
            unfold markStep
            rw [if_pos rfl, if_pos hc]
          have h1 : ((zs.length : Int) - 1) = ((zs.length - 1 : Nat) : Int) := by have := hc.1; omega
          rw [if_pos hp, List.length_map, w64 (n := (zs.length : Int) - 1) (by omega) (by omega), if_pos (by have := hc.1; omega), if_pos (by omega), w64 (by omega) (by omega), h1, wr_rd, Int.toNat_natCast]
          have := next true hb
          rw [e2, List.map_set] at this
          exact this
        · have e2 : (markStep ((i : Int), zs) 1 true).2 = zs ++ [((i : Int), (i : Int) + 1)] := by
            unfold markStep
            rw [if_pos rfl, if_neg (fun h => hp (hv.1 h).2)]
          rw [if_neg hp, if_pos (by rw [List.length_map]; omega), wm_bind k fl zs i (by omega) (by omega), ← e2]
          exact next true hb
    · have hb' : rdOf false fl (i : Int) = false := by simpa using hb
      rw [if_neg hb, hb', w64 (by omega) (by omega)]
      exact next false hb'
theorem wm_ranges (k : Nat) (fl : List Bool) (hf : fl.length ≤ 1000) (hk : 1000 < k) : changeforgeref1_ranges.f k fl = some ((markB fl (0, [])).2.map (fun p_ => (⟨p_.1, p_.2⟩ : S95))) := by
  exact wm_ranges_loop fl hf fl.length k 0 [] (by omega) (by omega) (by omega) (by simp) ⟨fun h => absurd h.1 (by simp), fun h => absurd h.1 (by omega)⟩ (fun h => absurd h (by simp))
def sideF (sd ot : Int) (x : Int × ByteArray) (n : Nat) : List Bool := if x.1 = ot then [] else List.replicate n (x.1 == sd)
theorem wm_in (L : List (Int × ByteArray)) (hL : L.length ≤ 1000) (j : Nat) (hj : j < L.length) (x : Int × ByteArray) (hx : rd_T79 (L.map mk79) (j : Int) = mk79 x) (hs : x.2.size ≤ 80) (d : Nat) : ∀ (k t : Nat) (fx fy : List Bool), t ≤ x.2.size → x.2.size - t = d → fx.length + d ≤ 100000 → fy.length + d ≤ 100000 →
    changeforgeref1_Highlight.l1 (k + d + 1) (L.map mk79) fx fy (j : Int) (t : Int) = changeforgeref1_Highlight.l0 k (L.map mk79) (fx ++ sideF 1 2 x d) (fy ++ sideF 2 1 x d) ((j : Int) + 1) := by
  have hx0 : (rd_T79 (L.map mk79) (j : Int)).f0 = x.1 := by rw [hx]; rfl
  have hx1 : (rd_T79 (L.map mk79) (j : Int)).f1 = x.2 := by rw [hx]; rfl
  induction d with
  | zero =>
    intro k t fx fy ht hd h1 h2
    have e : ∀ sd ot, sideF sd ot x 0 = [] := fun sd ot => by unfold sideF; split <;> rfl
    rw [e, e, List.append_nil, List.append_nil, changeforgeref1_Highlight.l1, if_pos (by omega), if_pos (by rw [List.length_map]; omega), hx1, if_neg (by omega), w64 (by omega) (by omega)]
  | succ d ih =>
    intro k t fx fy ht hd h1 h2
    have e1 : ((t + 1 : Nat) : Int) = (t : Int) + 1 := by omega
    have e : ∀ (sd ot : Int) (f : List Bool), f ++ sideF sd ot x (d + 1) = (if x.1 = ot then f else f ++ [x.1 == sd]) ++ sideF sd ot x d := fun sd ot f => by
      unfold sideF
      split
      · rfl
      · rw [List.replicate_succ, List.append_assoc]; rfl
    rw [e, e, show k + (d + 1) + 1 = (k + d + 1) + 1 by omega, changeforgeref1_Highlight.l1, if_pos (by omega), if_pos (by rw [List.length_map]; omega), hx1, hx0, if_pos (by omega), w64 (n := (t : Int) + 1) (by omega) (by omega), ← e1]
    by_cases c2 : x.1 = 2
    · rw [if_pos c2, if_pos c2, if_neg (show ¬ x.1 = 1 by omega), if_neg (show ¬ x.1 = 1 by omega), if_pos (by omega)]
      exact ih k (t + 1) _ _ (by omega) (by omega) (by omega) (by rw [List.length_append, List.length_singleton]; omega)
    · rw [if_neg c2, if_neg c2, if_pos (by omega), Option.bind_some]
      by_cases c1 : x.1 = 1
      · rw [if_pos c1, if_pos c1]
        exact ih k (t + 1) _ _ (by omega) (by omega) (by rw [List.length_append, List.length_singleton]; omega) (by omega)
      · rw [if_neg c1, if_neg c1, if_pos (by omega)]
        exact ih k (t + 1) _ _ (by omega) (by omega) (by rw [List.length_append, List.length_singleton]; omega) (by rw [List.length_append, List.length_singleton]; omega)
theorem sideF_flags {x : Int × ByteArray} (h : x.1 = 0 ∨ x.1 = 1 ∨ x.1 = 2) (r : List (Int × ByteArray)) : flagsOf 1 (x :: r) = sideF 1 2 x x.2.size ++ flagsOf 1 r ∧ flagsOf 2 (x :: r) = sideF 2 1 x x.2.size ++ flagsOf 2 r := by
  obtain ⟨k, s⟩ := x
  simp only [] at h
  rcases h with rfl | rfl | rfl <;> exact ⟨rfl, rfl⟩
theorem wm_rd79 (L : List (Int × ByteArray)) (j : Nat) (x : Int × ByteArray) (r : List (Int × ByteArray)) (h : L.drop j = x :: r) : rd_T79 (L.map mk79) (j : Int) = mk79 x := by
  unfold rd_T79
  have h0 : (L.drop j)[0]? = some x := by rw [h]; rfl
  rw [List.getElem?_drop, Nat.add_zero] at h0
  rw [Int.toNat_natCast, List.getD_eq_getElem?_getD, List.getElem?_map, h0]
  rfl
theorem wm_out (L : List (Int × ByteArray)) (hL : L.length ≤ 1000) (hk : ∀ x ∈ L, (x.1 = 0 ∨ x.1 = 1 ∨ x.1 = 2) ∧ x.2.size ≤ 80) (hfx : (flagsOf 1 L).length ≤ 1000) (hfy : (flagsOf 2 L).length ≤ 1000) (d : Nat) : ∀ (k j : Nat) (fx fy : List Bool), j ≤ L.length → L.length - j = d → 100 * d + 1200 ≤ k → fx ++ flagsOf 1 (L.drop j) = flagsOf 1 L → fy ++ flagsOf 2 (L.drop j) = flagsOf 2 L →
    changeforgeref1_Highlight.l0 k (L.map mk79) fx fy (j : Int) = some ((markB (flagsOf 1 L) (0, [])).2.map (fun p_ => (⟨p_.1, p_.2⟩ : S95)), (markB (flagsOf 2 L) (0, [])).2.map (fun p_ => (⟨p_.1, p_.2⟩ : S95))) := by
  induction d with
  | zero =>
    intro k j fx fy hj hd hk' e1 e2
    obtain ⟨k, rfl⟩ : ∃ m, k = m + 1 := ⟨k - 1, by omega⟩
    rw [List.drop_of_length_le (by omega)] at e1 e2
    have e1 : fx ++ [] = _ := e1
    have e2 : fy ++ [] = _ := e2
    rw [List.append_nil] at e1 e2
    rw [changeforgeref1_Highlight.l0, if_neg (by rw [List.length_map]; omega), e1, e2, wm_ranges k _ hfx (by omega), wm_ranges k _ hfy (by omega)]
    rfl
  | succ d ih =>
    intro k j fx fy hj hd hk' e1 e2
    have hlt : j < L.length := by omega
    have hdr : L.drop j = L[j] :: L.drop (j + 1) := List.drop_eq_getElem_cons hlt
    generalize L[j] = x at hdr
    have hxm : x ∈ L := List.mem_of_mem_drop (show x ∈ L.drop j by rw [hdr]; exact List.mem_cons_self ..)
    obtain ⟨hx1, hx2⟩ := hk x hxm
    obtain ⟨k, rfl⟩ : ∃ m, k = (m + x.2.size + 1) + 1 := ⟨k - x.2.size - 2, by omega⟩
    have hlx := congrArg List.length e1
    have hly := congrArg List.length e2
    rw [List.length_append] at hlx hly
    obtain ⟨f1, f2⟩ := sideF_flags hx1 (L.drop (j + 1))
    rw [hdr, f1, ← List.append_assoc] at e1
    rw [hdr, f2, ← List.append_assoc] at e2
    have h1 := wm_in L hL j hlt x (wm_rd79 L j x _ hdr) hx2 x.2.size k 0 fx fy (by omega) (by omega) (by omega) (by omega)
    rw [show ((0 : Nat) : Int) = 0 from rfl] at h1
    rw [changeforgeref1_Highlight.l0, if_pos (by rw [List.length_map]; omega), h1, show (j : Int) + 1 = ((j + 1 : Nat) : Int) by omega]
    exact ih k (j + 1) _ _ (by omega) (by omega) (by omega) e1 e2
theorem flags_len (sd : Int) (l : List (Int × ByteArray)) : (flagsOf sd l).length = (flatB (sideToks sd l)).length := by
  induction l with
  | nil => rfl
  | cons x r ih =>
    obtain ⟨k, s⟩ := x
    have hs := Lib.size_eq s
    rw [flagsOf, side_cons, List.length_append, ih]
    by_cases c0 : k = 0
    · rw [if_pos c0, if_pos (.inl c0), flatB_cons, List.length_append, List.length_replicate]
      omega
    · rw [if_neg c0]
      by_cases c1 : k = sd
      · rw [if_pos c1, if_pos (.inr c1), flatB_cons, List.length_append, List.length_replicate]
        omega
      · rw [if_neg c1, if_neg (fun h => h.elim c0 c1)]
        simp
theorem tok_small {a t : ByteArray} (h : t ∈ words a) : t.size ≤ a.size := by
  have h1 : (flatB [t]).length ≤ (flatB (words a)).length := flatB_sub (List.singleton_sublist.2 h)
  rw [flatB_words, flatB_cons, List.length_append] at h1
  have h2 := Lib.size_eq a
  have h3 := Lib.size_eq t
  omega
theorem wm_high (k : Nat) (hk : 100000 ≤ k) {a b : ByteArray} (ha : (linesFault [a]).1 = 0) (hb : (linesFault [b]).1 = 0) : changeforgeref1_Highlight.f k a b = some ((marksOf 1 (words a) (words b)).map (fun p_ => (⟨p_.1, p_.2⟩ : S95)), (marksOf 2 (words a) (words b)).map (fun p_ => (⟨p_.1, p_.2⟩ : S95))) := by
  have sa := line_size ha
  have sb := line_size hb
  have wa := words_small ha
  have wb := words_small hb
  have ea : changeforgeref1_Tokens.f k a = some (words a) := wm_tok a.size a rfl k [] (by omega) (by simp; omega)
  have eb : changeforgeref1_Tokens.f k b = some (words b) := wm_tok b.size b rfl k [] (by omega) (by simp; omega)
  have ec : changeforgeref1_Align.f k (words a) (words b) = some ((al (words a) (words b)).map mk79) := by
    unfold changeforgeref1_Align.f changeforgeref1_suffixes.f
    rw [if_pos ⟨by omega, by omega⟩, Option.bind_some]
    exact wm_align (words a) (words b) (by omega) (by omega) _ k 0 0 [] (by omega) (by omega) rfl (by omega) (by simp)
  obtain ⟨s1, s2⟩ := side_al _ (words a) (words b) rfl
  have l1 := flags_len 1 (al (words a) (words b))
  have l2 := flags_len 2 (al (words a) (words b))
  rw [s1, flatB_words] at l1
  rw [s2, flatB_words] at l2
  have za := Lib.size_eq a
  have zb := Lib.size_eq b
  have hal := al_length _ (words a) (words b) rfl
  have hm := al_mem _ (words a) (words b) rfl
  have hpos : ∀ x ∈ al (words a) (words b), 0 < x.2.size := fun x hx => (hm x hx).2.elim (words_pos a _) (words_pos b _)
  have h := wm_out (al (words a) (words b)) (by omega) (fun x hx => ⟨(hm x hx).1, (hm x hx).2.elim (fun h => Nat.le_trans (tok_small h) sa) (fun h => Nat.le_trans (tok_small h) sb)⟩) (by omega) (by omega) (al (words a) (words b)).length k 0 [] [] (by omega) (by omega) (by omega) rfl rfl
  unfold changeforgeref1_Highlight.f
  rw [ea, eb]
  simp only [Option.bind_some, ec]
  rw [flags_run 1 _ _ hpos, flags_run 2 _ _ hpos] at h
  exact h
theorem wm_pairs_loop (zs : List S95) (hz : zs.length ≤ 1000) (d : Nat) : ∀ (k i : Nat), i ≤ zs.length → zs.length - i = d → d < k → changeforgeequal_Pairs.l0 k zs zs (i : Int) = some true := by
  induction d with
  | zero =>
    intro k i hi hd hk
    obtain ⟨k, rfl⟩ : ∃ m, k = m + 1 := ⟨k - 1, by omega⟩
    rw [changeforgeequal_Pairs.l0, if_neg (by omega)]
  | succ d ih =>
    intro k i hi hd hk
    obtain ⟨k, rfl⟩ : ∃ m, k = m + 1 := ⟨k - 1, by omega⟩
    rw [changeforgeequal_Pairs.l0, if_pos (by omega), if_pos (by omega), if_pos (by omega), if_neg (by simp), w64 (by omega) (by omega), show (i : Int) + 1 = ((i + 1 : Nat) : Int) by omega]
    exact ih k (i + 1) (by omega) (by omega) (by omega)
theorem wm_pairs (k : Nat) (zs : List S95) (hz : zs.length ≤ 1000) (hk : 1000 < k) : changeforgeequal_Pairs.f k zs zs = some true := by
  unfold changeforgeequal_Pairs.f
  rw [if_pos rfl]
  exact wm_pairs_loop zs hz zs.length k 0 (by omega) (by omega) (by omega)
theorem WorddiffMatchesSpec : changeforgelaw1_WorddiffMatchesSpec.Pure := by
  intro a0 a1 _ _
  refine ⟨200001, ?_⟩
  have o0 : ∀ s : ByteArray, changeforgeref1_One.f s = some (linesFault [s]).1 := fun s => rfl
  unfold changeforgelaw1_WorddiffMatchesSpec.f
  rw [o0, o0]
  by_cases c0 : (linesFault [a0]).1 = 0
  · have et : changeforgeref1_Tokens.f 200001 a0 = some (words a0) := wm_tok a0.size a0 rfl 200001 [] (by have := line_size c0; omega) (by have := line_size c0; simp; omega)
    rw [wt_tok c0]
    simp only [Option.bind_some, if_pos c0, if_true, et, changeforgeequal_Strings.f, decide_true, Bool.not_true]
    by_cases c1 : (linesFault [a1]).1 = 0
    · have hw0 := words_small c0
      have hw1 := words_small c1
      rw [wt_high a0 a1 ⟨c0, c1⟩]
      simp only [Option.bind_some, changeforgelaw1_WorddiffMatchesSpec.j0]
      rw [if_neg (by decide), if_pos c1, wm_high 200000 (by omega) c0 c1]
      simp only [Option.bind_some, if_true]
      rw [wm_pairs 200000 _ (by rw [List.length_map]; exact marks_few 1 hw0.1 hw1.1) (by omega)]
      simp only [Option.bind_some, if_true]
      rw [wm_pairs 200000 _ (by rw [List.length_map]; exact marks_few 2 hw0.1 hw1.1) (by omega)]
      simp [wt_split]
    · unfold worddiff_Highlight.f
      rw [if_neg (fun h => h c0), if_pos c1]
      simp only [Option.bind_some, changeforgelaw1_WorddiffMatchesSpec.j0, changeforgeref1_At.f]
      rw [if_neg (by decide), if_neg c1, if_pos (by simp)]
      simp [wt_split]
  · unfold worddiff_Highlight.f
    rw [wt_tok_no c0, if_pos c0]
    simp only [Option.bind_some, if_neg c0, changeforgeref1_At.f]
    rw [if_pos (by simp), if_pos (by simp)]
    simp [wt_split]
end Go.Proofs.Ytifkadmljokffaa.Pure
