/- What lies outside of the marked ranges of a line, plainly. No program in sight. -/
import Derived.Test.YtifkadmljokffaaMrk
set_option linter.unusedVariables false
namespace Go.Proofs.Ytifkadmljokffaa.Pre
open Go.RowKit Go.Proofs.YtifkadmljokffaaW.PrintWords Go.Proofs.YtifkadmljokffaaW.PrintMore
/-- The bytes from 'at' to 'pos' outside of the ranges. -/
def outsL (d : List UInt8) : List Pr → Nat → Nat → List UInt8
  | [], at_, pos => (d.drop at_).take (pos - at_)
  | z :: r, at_, pos => (d.drop at_).take (z.1.toNat - at_) ++ outsL d r z.2.toNat pos
/-- Ranges in order, from 'at' (the first of all may begin there) to 'pos'. -/
def goodZ : List Pr → Int → Bool → Int → Prop
  | [], at_, _, pos => at_ ≤ pos
  | z :: r, at_, f, pos => at_ ≤ z.1 ∧ (f = false → at_ < z.1) ∧ z.1 < z.2 ∧ goodZ r z.2 false pos
theorem goodZ_le (zs : List Pr) : ∀ at_ f pos, goodZ zs at_ f pos → at_ ≤ pos := by
  induction zs with
  | nil => intro at_ f pos h; exact h
  | cons z r ih =>
    intro at_ f pos h
    have := ih _ _ _ h.2.2.2
    have := h.1
    have := h.2.2.1
    omega
theorem goodZ_grow (zs : List Pr) : ∀ at_ f pos pos', goodZ zs at_ f pos → pos ≤ pos' → goodZ zs at_ f pos' := by
  induction zs with
  | nil => intro at_ f pos pos' h h'; exact Int.le_trans h h'
  | cons z r ih => intro at_ f pos pos' h h'; exact ⟨h.1, h.2.1, h.2.2.1, ih _ _ _ _ h.2.2.2 h'⟩
theorem take_more (d : List UInt8) {a b c : Nat} (h : a ≤ b) (h' : b ≤ c) : (d.drop a).take (c - a) = (d.drop a).take (b - a) ++ (d.drop b).take (c - b) := by
  rw [show c - a = (b - a) + (c - b) by omega, List.take_add, List.drop_drop, show a + (b - a) = b by omega]
theorem outsL_grow (d : List UInt8) (zs : List Pr) : ∀ at_ f pos pos', 0 ≤ at_ → goodZ zs at_ f pos → pos ≤ pos' → outsL d zs at_.toNat pos'.toNat = outsL d zs at_.toNat pos.toNat ++ (d.drop pos.toNat).take (pos'.toNat - pos.toNat) := by
  induction zs with
  | nil => intro at_ f pos pos' h0 h h'; exact take_more d (by have : at_ ≤ pos := h; omega) (by omega)
  | cons z r ih =>
    intro at_ f pos pos' h0 h h'
    have := h.1
    have := h.2.2.1
    show _ ++ outsL d r z.2.toNat pos'.toNat = _ ++ outsL d r z.2.toNat pos.toNat ++ _
    rw [ih z.2 false pos pos' (by omega) h.2.2.2 h', List.append_assoc]
/-- The end of the last range. -/
def lastEnd : List Pr → Int → Int
  | [], at_ => at_
  | z :: r, _ => lastEnd r z.2
theorem lastEnd_getD (zs : List Pr) : ∀ at_, 0 < zs.length → lastEnd zs at_ = (zs.getD (zs.length - 1) (0, 0)).2 := by
  induction zs with
  | nil => intro at_ h; simp at h
  | cons z r ih =>
    intro at_ h
    cases r with
    | nil => rfl
    | cons y r => exact ih z.2 (by simp)
theorem lastEnd_le (zs : List Pr) : ∀ at_ f pos, goodZ zs at_ f pos → lastEnd zs at_ ≤ pos := by
  induction zs with
  | nil => intro at_ f pos h; exact h
  | cons z r ih => intro at_ f pos h; exact ih _ _ _ h.2.2.2
theorem goodZ_append (zs : List Pr) : ∀ at_ f pos pos', goodZ zs at_ f pos → pos < pos' → ((zs = [] ∧ f = true) ∨ lastEnd zs at_ < pos) → goodZ (zs ++ [(pos, pos')]) at_ f pos' := by
  induction zs with
  | nil =>
    intro at_ f pos pos' h h' hc
    refine ⟨h, fun hf => ?_, h', Int.le_refl _⟩
    rcases hc with ⟨_, e⟩ | e
    · rw [hf] at e; cases e
    · exact e
  | cons z r ih =>
    intro at_ f pos pos' h h' hc
    refine ⟨h.1, h.2.1, h.2.2.1, ih z.2 false pos pos' h.2.2.2 h' (.inr ?_)⟩
    rcases hc with ⟨e, _⟩ | e
    · cases e
    · exact e
theorem outsL_append (d : List UInt8) (zs : List Pr) : ∀ at_ f pos pos', 0 ≤ at_ → goodZ zs at_ f pos → outsL d (zs ++ [(pos, pos')]) at_.toNat pos'.toNat = outsL d zs at_.toNat pos.toNat := by
  induction zs with
  | nil =>
    intro at_ f pos pos' h0 h
    show (d.drop at_.toNat).take (pos.toNat - at_.toNat) ++ (d.drop pos'.toNat).take (pos'.toNat - pos'.toNat) = _
    rw [Nat.sub_self, List.take_zero, List.append_nil]
    rfl
  | cons z r ih =>
    intro at_ f pos pos' h0 h
    have := h.1
    have := h.2.2.1
    show _ ++ outsL d (r ++ [(pos, pos')]) z.2.toNat pos'.toNat = _ ++ outsL d r z.2.toNat pos.toNat
    rw [ih z.2 false pos pos' (by omega) h.2.2.2]
theorem ext_last (d : List UInt8) (zs : List Pr) : ∀ at_ f pos pos', 0 ≤ at_ → goodZ zs at_ f pos → 0 < zs.length → (zs.getD (zs.length - 1) (0, 0)).2 = pos → pos < pos' →
    goodZ (zs.set (zs.length - 1) ((zs.getD (zs.length - 1) (0, 0)).1, pos')) at_ f pos' ∧ outsL d (zs.set (zs.length - 1) ((zs.getD (zs.length - 1) (0, 0)).1, pos')) at_.toNat pos'.toNat = outsL d zs at_.toNat pos.toNat := by
  induction zs with
  | nil => intro at_ f pos pos' h0 h hl; simp at hl
  | cons z r ih =>
    intro at_ f pos pos' h0 h hl he h'
    have := h.1
    have := h.2.2.1
    cases r with
    | nil =>
      have e : z.2 = pos := he
      refine ⟨⟨h.1, h.2.1, by show z.1 < pos'; omega, Int.le_refl _⟩, ?_⟩
      show _ ++ (d.drop pos'.toNat).take (pos'.toNat - pos'.toNat) = _ ++ (d.drop z.2.toNat).take (pos.toNat - z.2.toNat)
      rw [Nat.sub_self, e, Nat.sub_self, List.take_zero, List.take_zero]
      rfl
    | cons y r =>
      obtain ⟨i1, i2⟩ := ih z.2 false pos pos' (by omega) h.2.2.2 (by simp) he h'
      refine ⟨⟨h.1, h.2.1, h.2.2.1, i1⟩, ?_⟩
      exact congrArg (fun q => (d.drop at_.toNat).take (z.1.toNat - at_.toNat) ++ q) i2
/-- A token is passed. -/
theorem step_good (d : List UInt8) (st : Int × List Pr) (n : Int) (m : Bool) (h0 : 0 ≤ st.1) (hg : goodZ st.2 0 true st.1) (hn : 0 < n) :
    goodZ (markStep st n m).2 0 true (markStep st n m).1 ∧ outsL d (markStep st n m).2 0 (markStep st n m).1.toNat = outsL d st.2 0 st.1.toNat ++ if m = true then [] else (d.drop st.1.toNat).take n.toNat := by
  unfold markStep
  simp only []
  cases m with
  | false =>
    rw [if_neg (by decide), if_neg (by decide)]
    refine ⟨goodZ_grow _ _ _ _ _ hg (by omega), ?_⟩
    have := outsL_grow d st.2 0 true st.1 (st.1 + n) (by omega) hg (by omega)
    rw [show (st.1 + n).toNat - st.1.toNat = n.toNat by omega] at this
    exact this
  | true =>
    rw [if_pos rfl, if_pos rfl, List.append_nil]
    by_cases c : 0 < st.2.length ∧ (st.2.getD (st.2.length - 1) (0, 0)).2 = st.1
    · rw [if_pos c]
      exact ext_last d st.2 0 true st.1 (st.1 + n) (by omega) hg c.1 c.2 (by omega)
    · rw [if_neg c]
      refine ⟨goodZ_append _ _ _ _ _ hg (by omega) ?_, outsL_append d st.2 0 true st.1 (st.1 + n) (by omega) hg⟩
      cases hz : st.2 with
      | nil => exact .inl ⟨rfl, rfl⟩
      | cons z r =>
        right
        have h1 := lastEnd_le _ _ _ _ hg
        have h2 := lastEnd_getD st.2 0 (by rw [hz]; simp)
        rw [← hz]
        have h3 : ¬ (st.2.getD (st.2.length - 1) (0, 0)).2 = st.1 := fun e => c ⟨by rw [hz]; simp, e⟩
        omega
/-- The tokens of one side of an alignment. -/
def sideToks (sd : Int) (l : List (Int × ByteArray)) : List ByteArray := l.filterMap fun s => if s.1 = 0 ∨ s.1 = sd then some s.2 else none
def flatB (l : List ByteArray) : List UInt8 := (l.map fun s => s.data.toList).flatten
theorem flatB_cons (s : ByteArray) (l : List ByteArray) : flatB (s :: l) = s.data.toList ++ flatB l := by simp [flatB]
theorem side_cons (sd k : Int) (s : ByteArray) (l : List (Int × ByteArray)) : sideToks sd ((k, s) :: l) = if k = 0 ∨ k = sd then s :: sideToks sd l else sideToks sd l := by
  unfold sideToks
  rw [List.filterMap_cons]
  by_cases c : k = 0 ∨ k = sd
  · rw [if_pos c]; simp only [if_pos c]
  · rw [if_neg c]; simp only [if_neg c]
theorem kept_cons (k : Int) (s : ByteArray) (l : List (Int × ByteArray)) : keptLines ((k, s) :: l) = if k = 0 then s :: keptLines l else keptLines l := by
  unfold keptLines
  rw [List.filterMap_cons]
  by_cases c : k = 0
  · rw [if_pos c]; simp only [if_pos c]
  · rw [if_neg c]; simp only [if_neg c]
theorem run_good (d : List UInt8) (sd : Int) (l : List (Int × ByteArray)) : ∀ st : Int × List Pr, 0 ≤ st.1 → goodZ st.2 0 true st.1 → (∀ t ∈ sideToks sd l, 0 < t.size) → d.drop st.1.toNat = flatB (sideToks sd l) → st.1 ≤ d.length → sd ≠ 0 →
    goodZ (markRun sd l st).2 0 true d.length ∧ outsL d (markRun sd l st).2 0 d.length = outsL d st.2 0 st.1.toNat ++ flatB (keptLines l) := by
  induction l with
  | nil =>
    intro st h0 hg ht hd hl _
    have h1 : d.drop st.1.toNat = [] := hd
    have h2 : (d.drop st.1.toNat).length = 0 := by rw [h1]; rfl
    rw [List.length_drop] at h2
    have e : st.1 = d.length := by omega
    refine ⟨by rw [← e]; exact hg, ?_⟩
    show outsL d st.2 0 d.length = outsL d st.2 0 st.1.toNat ++ []
    rw [List.append_nil, e, Int.toNat_natCast]
  | cons x r ih =>
    intro st h0 hg ht hd hl hs
    obtain ⟨k, s⟩ := x
    rw [side_cons] at ht hd
    by_cases c : k = 0 ∨ k = sd
    · rw [if_pos c] at ht hd
      have hsz := ht s (List.mem_cons_self ..)
      rw [flatB_cons] at hd
      have hlen : s.data.toList.length = s.size := by have := Lib.size_eq s; omega
      have hle : (st.1 + (s.size : Int)) ≤ d.length := by
        have := congrArg List.length hd
        rw [List.length_drop, List.length_append, hlen] at this
        omega
      have htk : (d.drop st.1.toNat).take s.size = s.data.toList := by rw [hd, ← hlen, List.take_left]
      have hdr : ∀ m, d.drop (markStep st s.size m).1.toNat = flatB (sideToks sd r) := fun m => by
        show d.drop (st.1 + (s.size : Int)).toNat = _
        rw [show (st.1 + (s.size : Int)).toNat = st.1.toNat + s.size by omega, ← List.drop_drop, hd, ← hlen, List.drop_left]
      have hr : ∀ t ∈ sideToks sd r, 0 < t.size := fun t h => ht t (List.mem_cons_of_mem _ h)
      have go : ∀ m, goodZ (markRun sd r (markStep st s.size m)).2 0 true d.length ∧ outsL d (markRun sd r (markStep st s.size m)).2 0 d.length = outsL d st.2 0 st.1.toNat ++ (if m = true then [] else s.data.toList) ++ flatB (keptLines r) := fun m => by
        obtain ⟨g1, g2⟩ := step_good d st s.size m h0 hg (by omega)
        obtain ⟨i1, i2⟩ := ih (markStep st s.size m) (by show 0 ≤ st.1 + (s.size : Int); omega) g1 hr (hdr m) (by show st.1 + (s.size : Int) ≤ _; omega) hs
        refine ⟨i1, ?_⟩
        rw [i2, g2, Int.toNat_natCast, htk]
      by_cases c0 : k = 0
      · obtain ⟨i1, i2⟩ := go false
        rw [kept_cons, if_pos c0, flatB_cons, show markRun sd ((k, s) :: r) st = markRun sd r (markStep st s.size false) by rw [markRun, if_pos c0]]
        refine ⟨i1, ?_⟩
        rw [i2, if_neg (by decide), List.append_assoc]
      · obtain ⟨i1, i2⟩ := go true
        rw [kept_cons, if_neg c0, show markRun sd ((k, s) :: r) st = markRun sd r (markStep st s.size true) by rw [markRun, if_neg c0, if_pos (c.resolve_left c0)]]
        refine ⟨i1, ?_⟩
        rw [i2, if_pos rfl, List.append_nil]
    · rw [if_neg c] at ht hd
      have c0 : ¬ k = 0 := fun h => c (.inl h)
      have c1 : ¬ k = sd := fun h => c (.inr h)
      rw [kept_cons, if_neg c0, show markRun sd ((k, s) :: r) st = markRun sd r st by rw [markRun, if_neg c0, if_neg c1]]
      exact ih st h0 hg ht hd hl hs
theorem side_al (n : Nat) : ∀ (a b : List ByteArray), a.length + b.length = n → sideToks 1 (al a b) = a ∧ sideToks 2 (al a b) = b := by
  induction n using Nat.strongRecOn with
  | _ n ih =>
    intro a b hn
    cases a with
    | nil =>
      cases b with
      | nil => rw [al_nil]; exact ⟨rfl, rfl⟩
      | cons y b =>
        obtain ⟨i1, i2⟩ := ih _ (by rw [← hn]; simp) [] b rfl
        rw [al_ins, side_cons, side_cons, if_neg (by decide), if_pos (by decide), i1, i2]
        exact ⟨rfl, rfl⟩
    | cons x a =>
      cases b with
      | nil =>
        obtain ⟨i1, i2⟩ := ih _ (by rw [← hn]; simp) a [] rfl
        rw [al_del, side_cons, side_cons, if_pos (by decide), if_neg (by decide), i1, i2]
        exact ⟨rfl, rfl⟩
      | cons y b =>
        by_cases e : x = y
        · subst e
          obtain ⟨i1, i2⟩ := ih (a.length + b.length) (by rw [← hn, List.length_cons, List.length_cons]; omega) a b rfl
          rw [al_eq, side_cons, side_cons, if_pos (by decide), if_pos (by decide), i1, i2]
          exact ⟨rfl, rfl⟩
        · rw [al_ne e]
          split
          · obtain ⟨i1, i2⟩ := ih (a.length + (y :: b).length) (by rw [← hn, List.length_cons, List.length_cons]; omega) a (y :: b) rfl
            rw [side_cons, side_cons, if_pos (by decide), if_neg (by decide), i1, i2]
            exact ⟨rfl, rfl⟩
          · obtain ⟨i1, i2⟩ := ih ((x :: a).length + b.length) (by rw [← hn, List.length_cons, List.length_cons]; omega) (x :: a) b rfl
            rw [side_cons, side_cons, if_neg (by decide), if_pos (by decide), i1, i2]
            exact ⟨rfl, rfl⟩
theorem flatB_words (s : ByteArray) : flatB (words s) = s.data.toList := by
  have h := congrArg (fun z : ByteArray => z.data.toList) (flatStr_words s)
  simpa [flatStr, mkStr, flatB] using h
theorem words_pos (s : ByteArray) : ∀ t ∈ words s, 0 < t.size := fun t ht => by
  have := words_ne s t ht
  rw [toList_nil] at this
  omega
/-- Outside of the marked ranges lie the kept tokens. -/
theorem marks_out (a b : ByteArray) : goodZ (marksOf 1 (words a) (words b)) 0 true a.size ∧ outsL a.data.toList (marksOf 1 (words a) (words b)) 0 a.size = flatB (keptOf (words a) (words b)) ∧
    goodZ (marksOf 2 (words a) (words b)) 0 true b.size ∧ outsL b.data.toList (marksOf 2 (words a) (words b)) 0 b.size = flatB (keptOf (words a) (words b)) := by
  obtain ⟨s1, s2⟩ := side_al _ (words a) (words b) rfl
  have la : a.data.toList.length = a.size := by have := Lib.size_eq a; omega
  have lb : b.data.toList.length = b.size := by have := Lib.size_eq b; omega
  have h1 := run_good a.data.toList 1 (al (words a) (words b)) (0, []) (Int.le_refl _) (Int.le_refl _) (by rw [s1]; exact words_pos a) (by rw [s1, flatB_words]; rfl) (by omega) (by decide)
  have h2 := run_good b.data.toList 2 (al (words a) (words b)) (0, []) (Int.le_refl _) (Int.le_refl _) (by rw [s2]; exact words_pos b) (by rw [s2, flatB_words]; rfl) (by omega) (by decide)
  rw [la] at h1
  rw [lb] at h2
  exact ⟨h1.1, h1.2, h2.1, h2.2⟩
theorem al_self (a : List ByteArray) : al a a = a.map fun s => ((0 : Int), s) := by
  induction a with
  | nil => exact al_nil
  | cons x a ih => rw [al_eq, ih]; rfl
theorem marks_self (sd : Int) (a : List ByteArray) : marksOf sd a a = [] := by
  unfold marksOf
  rw [al_self]
  suffices h : ∀ st : Int × List Pr, st.2 = [] → (markRun sd (a.map fun s => ((0 : Int), s)) st).2 = [] from h (0, []) rfl
  induction a with
  | nil => intro st h; exact h
  | cons x a ih => intro st h; exact ih (markStep st x.size false) h
end Go.Proofs.Ytifkadmljokffaa.Pre
