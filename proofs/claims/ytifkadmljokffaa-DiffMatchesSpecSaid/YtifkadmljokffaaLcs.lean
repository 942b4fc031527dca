/- Longest common subsequences, plainly. No program in sight. -/
import Derived.Test.YtifkadmljokffaaPre
import Derived.Test.YtifkadmljokffaaWMore
set_option linter.unusedVariables false
set_option linter.unusedSectionVars false
namespace Go.Proofs.Ytifkadmljokffaa.Pre
open Go.RowKit Go.Proofs.YtifkadmljokffaaW.PrintWords Go.Proofs.YtifkadmljokffaaW.PrintMore

section lcs
variable {α : Type} [DecidableEq α]
/-- The length of the longest common subsequences. -/
def lcs : List α → List α → Nat
  | [], _ => 0
  | _ :: _, [] => 0
  | a :: x, b :: y => if a = b then lcs x y + 1 else max (lcs x (b :: y)) (lcs (a :: x) y)
termination_by x y => x.length + y.length
theorem lcs_nil_l (y : List α) : lcs [] y = 0 := by rw [lcs]
theorem lcs_nil_r (x : List α) : lcs x [] = 0 := by cases x <;> rw [lcs]
theorem lcs_cons (a b : α) (x y : List α) : lcs (a :: x) (b :: y) = if a = b then lcs x y + 1 else max (lcs x (b :: y)) (lcs (a :: x) y) := by rw [lcs]
theorem lcs_max (n : Nat) : ∀ (x y s : List α), x.length + y.length = n → List.Sublist s x → List.Sublist s y → s.length ≤ lcs x y := by
  induction n using Nat.strongRecOn with
  | ind n ih =>
    intro x y s hn hx hy
    cases x with
    | nil => rw [List.sublist_nil.1 hx]; exact Nat.zero_le _
    | cons a x =>
      cases y with
      | nil => rw [List.sublist_nil.1 hy]; exact Nat.zero_le _
      | cons b y =>
        simp only [List.length_cons] at hn
        rw [lcs_cons]
        cases s with
        | nil => exact Nat.zero_le _
        | cons c s =>
          by_cases e : a = b
          · rw [if_pos e]
            have h1 : List.Sublist s x := by
              rcases List.sublist_cons_iff.1 hx with h | ⟨r, h, hr⟩
              · exact (List.sublist_cons_self c s).trans h
              · cases h; exact hr
            have h2 : List.Sublist s y := by
              rcases List.sublist_cons_iff.1 hy with h | ⟨r, h, hr⟩
              · exact (List.sublist_cons_self c s).trans h
              · cases h; exact hr
            have := ih (x.length + y.length) (by omega) x y s rfl h1 h2
            simp only [List.length_cons]
            omega
          · rw [if_neg e]
            rcases List.sublist_cons_iff.1 hx with h | ⟨r, h, hr⟩
            · have := ih (x.length + (b :: y).length) (by simp only [List.length_cons]; omega) x (b :: y) _ rfl h hy
              omega
            · rcases List.sublist_cons_iff.1 hy with h' | ⟨r', h', hr'⟩
              · have := ih ((a :: x).length + y.length) (by simp only [List.length_cons]; omega) (a :: x) y _ rfl hx h'
                omega
              · cases h; cases h'; exact absurd rfl e
theorem lcs_ex (n : Nat) : ∀ (x y : List α), x.length + y.length = n → ∃ s, List.Sublist s x ∧ List.Sublist s y ∧ s.length = lcs x y := by
  induction n using Nat.strongRecOn with
  | ind n ih =>
    intro x y hn
    cases x with
    | nil => exact ⟨[], List.Sublist.refl _, List.nil_sublist _, by rw [lcs_nil_l]; rfl⟩
    | cons a x =>
      cases y with
      | nil => exact ⟨[], List.nil_sublist _, List.Sublist.refl _, by rw [lcs_nil_r]; rfl⟩
      | cons b y =>
        simp only [List.length_cons] at hn
        rw [lcs_cons]
        by_cases e : a = b
        · subst e
          obtain ⟨s, h1, h2, h3⟩ := ih (x.length + y.length) (by omega) x y rfl
          exact ⟨a :: s, h1.cons_cons a, h2.cons_cons a, by rw [if_pos rfl, List.length_cons, h3]⟩
        · rw [if_neg e]
          obtain ⟨s, h1, h2, h3⟩ := ih (x.length + (b :: y).length) (by simp only [List.length_cons]; omega) x (b :: y) rfl
          obtain ⟨t, k1, k2, k3⟩ := ih ((a :: x).length + y.length) (by simp only [List.length_cons]; omega) (a :: x) y rfl
          by_cases c : lcs (a :: x) y ≤ lcs x (b :: y)
          · exact ⟨s, h1.cons a, h2, by omega⟩
          · exact ⟨t, k1, k2.cons b, by omega⟩
theorem le_lcs {x y s : List α} (h : List.Sublist s x) (k : List.Sublist s y) : s.length ≤ lcs x y := lcs_max _ x y s rfl h k
theorem lcs_sub (x y : List α) : ∃ s, List.Sublist s x ∧ List.Sublist s y ∧ s.length = lcs x y := lcs_ex _ x y rfl
theorem lcs_comm (x y : List α) : lcs x y = lcs y x := by
  obtain ⟨s, h1, h2, h3⟩ := lcs_sub x y
  obtain ⟨t, k1, k2, k3⟩ := lcs_sub y x
  have := le_lcs h2 h1
  have := le_lcs k2 k1
  omega
theorem lcs_le (x y : List α) : lcs x y ≤ x.length ∧ lcs x y ≤ y.length := by
  obtain ⟨s, h1, h2, h3⟩ := lcs_sub x y
  have := h1.length_le
  have := h2.length_le
  omega
theorem lcs_self (x : List α) : lcs x x = x.length := by
  have := le_lcs (List.Sublist.refl x) (List.Sublist.refl x)
  have := (lcs_le x x).1
  omega
theorem lcs_eq {x y : List α} (h : x.length + y.length = 2 * lcs x y) : x = y := by
  obtain ⟨s, h1, h2, h3⟩ := lcs_sub x y
  have := lcs_le x y
  have e1 := h1.eq_of_length (by omega)
  have e2 := h2.eq_of_length (by omega)
  rw [← e1, ← e2]
/-- Two subsequences of one list have much in common. -/
theorem sub_meet (b : List α) : ∀ (s t : List α), List.Sublist s b → List.Sublist t b → ∃ u, List.Sublist u s ∧ List.Sublist u t ∧ s.length + t.length ≤ u.length + b.length := by
  induction b with
  | nil =>
    intro s t h k
    rw [List.sublist_nil.1 h, List.sublist_nil.1 k]
    exact ⟨[], List.Sublist.refl _, List.Sublist.refl _, by simp⟩
  | cons c b ih =>
    intro s t h k
    rcases List.sublist_cons_iff.1 h with h2 | ⟨r, rfl, h2⟩
    · rcases List.sublist_cons_iff.1 k with k2 | ⟨r', rfl, k2⟩
      · obtain ⟨u, u1, u2, u3⟩ := ih s t h2 k2
        exact ⟨u, u1, u2, by simp only [List.length_cons]; omega⟩
      · obtain ⟨u, u1, u2, u3⟩ := ih s r' h2 k2
        exact ⟨u, u1, u2.cons c, by simp only [List.length_cons]; omega⟩
    · rcases List.sublist_cons_iff.1 k with k2 | ⟨r', rfl, k2⟩
      · obtain ⟨u, u1, u2, u3⟩ := ih r t h2 k2
        exact ⟨u, u1.cons c, u2, by simp only [List.length_cons]; omega⟩
      · obtain ⟨u, u1, u2, u3⟩ := ih r r' h2 k2
        exact ⟨c :: u, u1.cons_cons c, u2.cons_cons c, by simp only [List.length_cons]; omega⟩
theorem lcs_tri (x y z : List α) : lcs x y + lcs y z ≤ lcs x z + y.length := by
  obtain ⟨s, h1, h2, h3⟩ := lcs_sub x y
  obtain ⟨t, k1, k2, k3⟩ := lcs_sub y z
  obtain ⟨u, u1, u2, u3⟩ := sub_meet y s t h2 k1
  have := le_lcs (u1.trans h1) (u2.trans k2)
  omega
theorem lcs_prefix (p x y : List α) : lcs (p ++ x) (p ++ y) = p.length + lcs x y := by
  induction p with
  | nil => simp
  | cons a p ih => rw [List.cons_append, List.cons_append, lcs_cons, if_pos rfl, ih, List.length_cons]; omega
theorem lcs_reverse (x y : List α) : lcs x.reverse y.reverse = lcs x y := by
  obtain ⟨s, h1, h2, h3⟩ := lcs_sub x y
  obtain ⟨t, k1, k2, k3⟩ := lcs_sub x.reverse y.reverse
  have := le_lcs (List.reverse_sublist.2 h1) (List.reverse_sublist.2 h2)
  have k1' := List.reverse_sublist.2 k1
  have k2' := List.reverse_sublist.2 k2
  rw [List.reverse_reverse] at k1' k2'
  have := le_lcs k1' k2'
  simp only [List.length_reverse] at *
  omega
theorem lcs_suffix (p x y : List α) : lcs (x ++ p) (y ++ p) = lcs x y + p.length := by
  rw [← lcs_reverse, List.reverse_append, List.reverse_append, lcs_prefix, lcs_reverse, List.length_reverse]
  omega
/-- How long a beginning two lists share. -/
def cpre : List α → List α → Nat
  | a :: x, b :: y => if a = b then cpre x y + 1 else 0
  | _, _ => 0
theorem cpre_le (x : List α) : ∀ y : List α, cpre x y ≤ x.length ∧ cpre x y ≤ y.length := by
  induction x with
  | nil => intro y; simp [cpre]
  | cons a x ih =>
    intro y
    cases y with
    | nil => simp [cpre]
    | cons b y =>
      have := ih y
      unfold cpre
      split
      · simp only [List.length_cons]; omega
      · simp
theorem cpre_take (x : List α) : ∀ y : List α, x.take (cpre x y) = y.take (cpre x y) := by
  induction x with
  | nil => intro y; simp [cpre]
  | cons a x ih =>
    intro y
    cases y with
    | nil => simp [cpre]
    | cons b y =>
      unfold cpre
      split
      · rename_i e; subst e; rw [List.take_succ_cons, List.take_succ_cons, ih y]
      · rfl
end lcs
/-! ### tables -/
theorem range_set {α : Type} (N : Nat) (F : Nat → α) (i : Nat) (v : α) : ((List.range N).map F).set i v = (List.range N).map (fun p => if p = i then v else F p) := by
  apply List.ext_getElem
  · simp
  · intro k h1 h2
    simp only [List.getElem_set, List.getElem_map, List.getElem_range]
    by_cases e : i = k
    · rw [if_pos e, if_pos e.symm]
    · rw [if_neg e, if_neg (fun h => e h.symm)]
theorem range_congr {α : Type} (N : Nat) {F G : Nat → α} (h : ∀ p, p < N → F p = G p) : (List.range N).map F = (List.range N).map G := List.map_congr_left (fun p hp => h p (List.mem_range.1 hp))
theorem range_getD {α : Type} (N : Nat) (F : Nat → α) (d : α) (i : Nat) (h : i < N) : ((List.range N).map F).getD i d = F i := by
  rw [List.getD_eq_getElem?_getD]; simp [h]
theorem range_const {α : Type} (N : Nat) (v : α) : (List.range N).map (fun _ => v) = List.replicate N v := by
  apply List.ext_getElem <;> simp
/-- A table of m + 1 rows of n + 1 numbers. -/
def tab (m n : Nat) (f : Nat → Nat → Int) : List (List Int) := (List.range (m + 1)).map fun p => (List.range (n + 1)).map (f p)
theorem tab_length (m n : Nat) (f : Nat → Nat → Int) : (tab m n f).length = m + 1 := by simp [tab]
theorem tab_row (m n : Nat) (f : Nat → Nat → Int) (i : Nat) (h : i ≤ m) : (tab m n f).getD i [] = (List.range (n + 1)).map (f i) := range_getD _ _ _ _ (by omega)
theorem tab_congr {m n : Nat} {f g : Nat → Nat → Int} (h : ∀ p q, p ≤ m → q ≤ n → f p q = g p q) : tab m n f = tab m n g :=
  range_congr _ (fun p hp => range_congr _ (fun q hq => h p q (by omega) (by omega)))
theorem tab_set (m n : Nat) (f : Nat → Nat → Int) (i j : Nat) (v : Int) : (tab m n f).set i (((List.range (n + 1)).map (f i)).set j v) = tab m n (fun p q => if p = i ∧ q = j then v else f p q) := by
  unfold tab
  rw [range_set, range_set]
  refine range_congr _ (fun p hp => ?_)
  by_cases e : p = i
  · subst e; rw [if_pos rfl]; exact range_congr _ (fun q hq => by simp)
  · rw [if_neg e]; exact range_congr _ (fun q hq => by simp [e])
theorem tab_rd (m n : Nat) (f : Nat → Nat → Int) (i j : Nat) (hi : i ≤ m) (hj : j ≤ n) : rd ((tab m n f).getD i []) (j : Int) = f i j := by
  rw [tab_row _ _ _ _ hi]
  exact range_getD _ _ _ _ (by omega)
/-- The lengths of the longest common subsequences of what is left of both. -/
def lcsTab (a b : List ByteArray) : List (List Int) := tab a.length b.length fun p q => (lcs (a.drop p) (b.drop q) : Int)
theorem lcs_drop (a b : List ByteArray) (p q : Nat) (hp : p < a.length) (hq : q < b.length) : (lcs (a.drop p) (b.drop q) : Int) = if (rdOf ByteArray.empty a (p : Int)).toList = (rdOf ByteArray.empty b (q : Int)).toList then (lcs (a.drop (p + 1)) (b.drop (q + 1)) : Int) + 1 else mx (lcs (a.drop (p + 1)) (b.drop q)) (lcs (a.drop p) (b.drop (q + 1))) := by
  have e1 := rdOf_drop ByteArray.empty a p hp
  have e2 := rdOf_drop ByteArray.empty b q hq
  by_cases c : rdOf ByteArray.empty a (p : Int) = rdOf ByteArray.empty b (q : Int)
  · rw [if_pos (by rw [c])]
    rw [e1, e2, lcs_cons, if_pos c]
    omega
  · rw [if_neg (fun h => c (toList_inj.1 h))]
    conv => lhs; rw [e1, e2, lcs_cons, if_neg c, ← e1, ← e2]
    unfold mx
    split <;> omega
/-- The distance of two lists of lines, as diff.Distance tells it. -/
def distOf (a b : List ByteArray) : Int := (a.length : Int) + b.length - 2 * (lcs a b : Nat)
def distSpec (a b : List ByteArray) : Int × Int × Int := if twoFault a b = (0, 0) then (distOf a b, 0, 0) else (0, twoFault a b)
theorem dist_zero {a b : List ByteArray} (h : (distSpec a b).2.1 = 0) : twoFault a b = (0, 0) ∧ distSpec a b = (distOf a b, 0, 0) := by
  unfold distSpec at h ⊢
  rcases twoFault_or a b with z | z
  · rw [if_pos z]; exact ⟨z, rfl⟩
  · rw [if_neg (fun e => z (by rw [e]))] at h
    exact absurd h z
theorem dist_moved : distSpec [mkStr [120], mkStr [121]] [mkStr [121], mkStr [120]] = (2, 0, 0) := by
  have h1 : twoFault [mkStr [120], mkStr [121]] [mkStr [121], mkStr [120]] = (0, 0) := by decide +kernel
  have h2 : lcs [mkStr [120], mkStr [121]] [mkStr [121], mkStr [120]] = 1 := by
    simp [lcs_cons, lcs_nil_l, lcs_nil_r, mkStr_inj]
  unfold distSpec distOf
  rw [if_pos h1, h2]
  rfl
theorem distOf_comm (a b : List ByteArray) : distOf a b = distOf b a := by unfold distOf; rw [lcs_comm a b]; omega
theorem distOf_range (a b : List ByteArray) : 0 ≤ distOf a b ∧ distOf a b ≤ a.length + b.length := by
  have := lcs_le a b
  unfold distOf
  omega
theorem distOf_tri (a b c : List ByteArray) : distOf a c ≤ distOf a b + distOf b c := by
  have := lcs_tri a b c
  unfold distOf
  omega
theorem distOf_zero (a b : List ByteArray) : (distOf a b == 0) = decide (a = b) := by
  rw [Bool.eq_iff_iff, beq_iff_eq, decide_eq_true_iff]
  unfold distOf
  constructor
  · intro h; exact lcs_eq (by omega)
  · rintro rfl; rw [lcs_self]; omega
end Go.Proofs.Ytifkadmljokffaa.Pre
