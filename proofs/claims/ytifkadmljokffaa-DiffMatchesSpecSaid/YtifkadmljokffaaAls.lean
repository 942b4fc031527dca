/- The alignment of two lists of lines, and what is made of it, plainly. No program in sight. -/
import Derived.Test.YtifkadmljokffaaLcs
import Derived.Test.YtifkadmljokffaaPch
set_option linter.unusedVariables false
namespace Go.Proofs.Ytifkadmljokffaa.Pre
open Go.RowKit Go.Proofs.YtifkadmljokffaaW.PrintWords Go.Proofs.YtifkadmljokffaaW.PrintMore

/-- The steps: 0 a line is kept, 1 deleted, 2 inserted. -/
def al : List ByteArray → List ByteArray → List (Int × ByteArray)
  | [], [] => []
  | x :: a, [] => (1, x) :: al a []
  | [], y :: b => (2, y) :: al [] b
  | x :: a, y :: b => if x = y then (0, x) :: al a b else if lcs (x :: a) b ≤ lcs a (y :: b) then (1, x) :: al a (y :: b) else (2, y) :: al (x :: a) b
termination_by a b => a.length + b.length
theorem al_nil : al [] [] = [] := by rw [al]
theorem al_del (x : ByteArray) (a : List ByteArray) : al (x :: a) [] = (1, x) :: al a [] := by rw [al]
theorem al_ins (y : ByteArray) (b : List ByteArray) : al [] (y :: b) = (2, y) :: al [] b := by rw [al]
theorem al_eq (x : ByteArray) (a b : List ByteArray) : al (x :: a) (x :: b) = (0, x) :: al a b := by rw [al, if_pos rfl]
theorem al_ne {x y : ByteArray} (h : ¬ x = y) (a b : List ByteArray) : al (x :: a) (y :: b) = if lcs (x :: a) b ≤ lcs a (y :: b) then (1, x) :: al a (y :: b) else (2, y) :: al (x :: a) b := by rw [al, if_neg h]

/-- What is told on the way: a kept line's index, or a hunk. -/
abbrev Evt := Sum Int Hk
def flushH (s : Int) (o n : List ByteArray) : List Evt := if o = [] ∧ n = [] then [] else [.inr (s, o, n)]
def ev : Int → Int → List ByteArray → List ByteArray → List (Int × ByteArray) → List Evt
  | _, s, o, n, [] => flushH s o n
  | i, s, o, n, (k, x) :: r => if k = 0 then flushH s o n ++ .inl i :: ev (i + 1) (i + 1) [] [] r else if k = 1 then ev (i + 1) s (o ++ [x]) n r else ev i s o (n ++ [x]) r
def evs (a b : List ByteArray) : List Evt := ev 0 0 [] [] (al a b)
def hunksOf (l : List Evt) : List Hk := l.filterMap fun e => match e with | .inr h => some h | .inl _ => none
def keepsOf (l : List Evt) : List Int := l.filterMap fun e => match e with | .inl i => some i | .inr _ => none
def scriptOf (a b : List ByteArray) : List Hk := hunksOf (evs a b)
/-- The lines that are kept. -/
def keptLines (l : List (Int × ByteArray)) : List ByteArray := l.filterMap fun s => if s.1 = 0 then some s.2 else none
def keptOf (a b : List ByteArray) : List ByteArray := keptLines (al a b)
theorem flushH_nil (s : Int) : flushH s [] [] = [] := if_pos ⟨rfl, rfl⟩
theorem flushH_ne {s : Int} {o n : List ByteArray} (h : ¬ (o = [] ∧ n = [])) : flushH s o n = [.inr (s, o, n)] := if_neg h
theorem ev_nil (i s : Int) (o n : List ByteArray) : ev i s o n [] = flushH s o n := rfl
theorem ev_keep (i s : Int) (o n : List ByteArray) (x : ByteArray) (r : List (Int × ByteArray)) : ev i s o n ((0, x) :: r) = flushH s o n ++ .inl i :: ev (i + 1) (i + 1) [] [] r := rfl
theorem ev_del (i s : Int) (o n : List ByteArray) (x : ByteArray) (r : List (Int × ByteArray)) : ev i s o n ((1, x) :: r) = ev (i + 1) s (o ++ [x]) n r := rfl
theorem ev_ins (i s : Int) (o n : List ByteArray) (x : ByteArray) (r : List (Int × ByteArray)) : ev i s o n ((2, x) :: r) = ev i s o (n ++ [x]) r := rfl
/-- Whether the run of changes is at its end. -/
def calm : List ByteArray → List ByteArray → Bool
  | [], [] => true
  | x :: _, y :: _ => decide (x = y)
  | _, _ => false
theorem ev_calm (i s : Int) (o n a b : List ByteArray) (h : calm a b = true) : ev i s o n (al a b) = flushH s o n ++ ev i i [] [] (al a b) := by
  cases a with
  | nil =>
    cases b with
    | nil => rw [al_nil, ev_nil, ev_nil, flushH_nil, List.append_nil]
    | cons y b => simp [calm] at h
  | cons x a =>
    cases b with
    | nil => simp [calm] at h
    | cons y b =>
      obtain rfl : x = y := by simpa [calm] using h
      rw [al_eq, ev_keep, ev_keep, flushH_nil, List.nil_append]
/-- The lists without a last part. -/
theorem ev_length (l : List (Int × ByteArray)) : ∀ (i s : Int) (o n : List ByteArray), (hunksOf (ev i s o n l)).length ≤ l.length + 1 := by
  induction l with
  | nil => intro i s o n; rw [ev_nil]; unfold flushH; split <;> simp [hunksOf]
  | cons p r ih =>
    intro i s o n
    obtain ⟨k, x⟩ := p
    unfold ev
    split
    · have := ih (i + 1) (i + 1) [] []
      unfold flushH
      split
      · simp only [List.nil_append, hunksOf, List.filterMap_cons, List.length_cons] at *; omega
      · simp only [List.cons_append, List.nil_append, hunksOf, List.filterMap_cons, List.length_cons] at *; omega
    · split
      · have := ih (i + 1) s (o ++ [x]) n; simp only [List.length_cons]; omega
      · have := ih i s o (n ++ [x]); simp only [List.length_cons]; omega
theorem al_length (n : Nat) : ∀ (a b : List ByteArray), a.length + b.length = n → (al a b).length ≤ n := by
  induction n using Nat.strongRecOn with
  | ind n ih =>
    intro a b hn
    cases a with
    | nil =>
      cases b with
      | nil => rw [al_nil]; simp
      | cons y b => rw [al_ins]; simp only [List.length_cons, List.length_nil] at *; have := ih (0 + b.length) (by omega) [] b rfl; omega
    | cons x a =>
      cases b with
      | nil => rw [al_del]; simp only [List.length_cons, List.length_nil] at *; have := ih (a.length + 0) (by omega) a [] rfl; omega
      | cons y b =>
        simp only [List.length_cons] at *
        by_cases e : x = y
        · subst e; rw [al_eq]; have := ih (a.length + b.length) (by omega) a b rfl; simp only [List.length_cons]; omega
        · rw [al_ne e]
          split
          · have := ih (a.length + (b.length + 1)) (by omega) a (y :: b) rfl; simp only [List.length_cons]; omega
          · have := ih (a.length + 1 + b.length) (by omega) (x :: a) b rfl; simp only [List.length_cons]; omega
/-- The kept lines are at the indices that are told. -/
theorem keeps_kept (a : List ByteArray) (n : Nat) : ∀ (i j : Nat) (b : List ByteArray) (s : Int) (o m : List ByteArray), (a.drop i).length + b.length = n →
    (keepsOf (ev (i : Int) s o m (al (a.drop i) b))).map (fun z => rdOf ByteArray.empty a z) = keptLines (al (a.drop i) b) := by
  induction n using Nat.strongRecOn with
  | ind n ih =>
    intro i j b s o m hn
    have hfl : ∀ (s : Int) (o m : List ByteArray), keepsOf (flushH s o m) = [] := by intro s o m; unfold flushH; split <;> rfl
    have happ : ∀ x y : List Evt, keepsOf (x ++ y) = keepsOf x ++ keepsOf y := by intro x y; simp [keepsOf]
    by_cases hi : i < a.length
    · have hd := rdOf_drop ByteArray.empty a i hi
      generalize hx : rdOf ByteArray.empty a (i : Int) = x at hd
      have hl : (a.drop i).length = (a.drop (i + 1)).length + 1 := by rw [hd]; rfl
      rw [hd]
      cases b with
      | nil =>
        rw [al_del, ev_del]
        have := ih ((a.drop (i + 1)).length + 0) (by simp only [List.length_nil] at hn; omega) (i + 1) j [] s (o ++ [x]) m rfl
        rw [Int.natCast_add] at this
        exact this
      | cons y b =>
        simp only [List.length_cons] at hn
        by_cases e : x = y
        · subst e
          rw [al_eq, ev_keep, happ, hfl]
          have := ih ((a.drop (i + 1)).length + b.length) (by omega) (i + 1) j b ((i : Int) + 1) [] [] rfl
          rw [Int.natCast_add] at this
          show (((i : Int) :: keepsOf (ev ((i : Int) + 1) ((i : Int) + 1) [] [] (al (a.drop (i + 1)) b))).map fun z => rdOf ByteArray.empty a z) = _
          rw [List.map_cons, hx]
          exact congrArg (x :: ·) this
        · rw [al_ne e]
          split
          · rw [ev_del]
            have := ih ((a.drop (i + 1)).length + (y :: b).length) (by simp only [List.length_cons]; omega) (i + 1) j (y :: b) s (o ++ [x]) m rfl
            rw [Int.natCast_add] at this
            exact this
          · rw [ev_ins]
            have := ih ((a.drop i).length + b.length) (by omega) i j b s o (m ++ [y]) rfl
            rw [hd] at this
            exact this
    · have hd : a.drop i = [] := List.drop_of_length_le (by omega)
      rw [hd]
      cases b with
      | nil => rw [al_nil, ev_nil, hfl]; rfl
      | cons y b =>
        rw [al_ins, ev_ins]
        have := ih ((a.drop i).length + b.length) (by simp only [List.length_cons] at hn; omega) i j b s o (m ++ [y]) rfl
        rw [hd] at this
        exact this
theorem kept_evs (a b : List ByteArray) : (keepsOf (evs a b)).map (fun z => rdOf ByteArray.empty a z) = keptOf a b := keeps_kept a _ 0 0 b 0 [] [] rfl
/-- What diff.Script tells. -/
def scriptOr (a b : List ByteArray) : List Hk × Int × Int := if twoFault a b = (0, 0) then (scriptOf a b, 0, 0) else ([], twoFault a b)
/-- What diff.Common tells. -/
def commonLines (a b : List ByteArray) : List ByteArray × Int × Int := if twoFault a b = (0, 0) then (keptOf a b, 0, 0) else ([], twoFault a b)
theorem kept_facts (n : Nat) : ∀ (a b : List ByteArray), a.length + b.length = n → List.Sublist (keptLines (al a b)) a ∧ List.Sublist (keptLines (al a b)) b ∧ (keptLines (al a b)).length = lcs a b := by
  have k0 : ∀ (x : ByteArray) r, keptLines ((0, x) :: r) = x :: keptLines r := fun x r => rfl
  have k1 : ∀ (x : ByteArray) r, keptLines ((1, x) :: r) = keptLines r := fun x r => rfl
  have k2 : ∀ (x : ByteArray) r, keptLines ((2, x) :: r) = keptLines r := fun x r => rfl
  induction n using Nat.strongRecOn with
  | ind n ih =>
    intro a b hn
    cases a with
    | nil =>
      cases b with
      | nil => rw [al_nil, lcs_nil_l]; exact ⟨List.Sublist.refl _, List.Sublist.refl _, rfl⟩
      | cons y b =>
        simp only [List.length_cons, List.length_nil] at hn
        obtain ⟨h1, h2, h3⟩ := ih (0 + b.length) (by omega) [] b rfl
        rw [al_ins, k2]
        exact ⟨h1, h2.cons _, by rw [h3, lcs_nil_l, lcs_nil_l]⟩
    | cons x a =>
      cases b with
      | nil =>
        simp only [List.length_cons, List.length_nil] at hn
        obtain ⟨h1, h2, h3⟩ := ih (a.length + 0) (by omega) a [] rfl
        rw [al_del, k1]
        exact ⟨h1.cons _, h2, by rw [h3, lcs_nil_r, lcs_nil_r]⟩
      | cons y b =>
        simp only [List.length_cons] at hn
        by_cases e : x = y
        · subst e
          obtain ⟨h1, h2, h3⟩ := ih (a.length + b.length) (by omega) a b rfl
          rw [al_eq, k0]
          exact ⟨h1.cons_cons x, h2.cons_cons x, by rw [lcs_cons, if_pos rfl, List.length_cons, h3]⟩
        · rw [al_ne e]
          split
          · rename_i hc
            obtain ⟨h1, h2, h3⟩ := ih (a.length + (y :: b).length) (by simp only [List.length_cons]; omega) a (y :: b) rfl
            rw [k1]
            exact ⟨h1.cons _, h2, by rw [h3, lcs_cons, if_neg e]; omega⟩
          · rename_i hc
            obtain ⟨h1, h2, h3⟩ := ih ((x :: a).length + b.length) (by simp only [List.length_cons]; omega) (x :: a) b rfl
            rw [k2]
            exact ⟨h1, h2.cons _, by rw [h3, lcs_cons, if_neg e]; omega⟩
theorem keptOf_facts (a b : List ByteArray) : List.Sublist (keptOf a b) a ∧ List.Sublist (keptOf a b) b ∧ (keptOf a b).length = lcs a b := kept_facts _ a b rfl
/-- Whether the one is a subsequence of the other. -/
def subl : List ByteArray → List ByteArray → Bool
  | [], _ => true
  | _ :: _, [] => false
  | x :: l, y :: a => if y = x then subl l a else subl (x :: l) a
theorem subl_nil (a : List ByteArray) : subl [] a = true := by cases a <;> rfl
theorem subl_end {l : List ByteArray} (h : ¬ l = []) : subl l [] = false := by
  cases l with
  | nil => exact absurd rfl h
  | cons x l => rfl
theorem subl_iff (a : List ByteArray) : ∀ l, subl l a = true ↔ List.Sublist l a := by
  induction a with
  | nil =>
    intro l
    cases l with
    | nil => exact ⟨fun _ => List.Sublist.refl _, fun _ => rfl⟩
    | cons x l => exact ⟨fun h => by simp [subl] at h, fun h => by cases h⟩
  | cons y a ih =>
    intro l
    cases l with
    | nil => exact ⟨fun _ => List.nil_sublist _, fun _ => rfl⟩
    | cons x l =>
      unfold subl
      by_cases e : y = x
      · subst e
        rw [if_pos rfl, ih]
        exact ⟨fun h => h.cons_cons y, fun h => by
          rcases List.sublist_cons_iff.1 h with h2 | ⟨r, h2, hr⟩
          · exact (List.sublist_cons_self y l).trans h2
          · cases h2; exact hr⟩
      · rw [if_neg e, ih]
        exact ⟨fun h => h.cons y, fun h => by
          rcases List.sublist_cons_iff.1 h with h2 | ⟨r, h2, hr⟩
          · exact h2
          · cases h2; exact absurd rfl e⟩
end Go.Proofs.Ytifkadmljokffaa.Pre
