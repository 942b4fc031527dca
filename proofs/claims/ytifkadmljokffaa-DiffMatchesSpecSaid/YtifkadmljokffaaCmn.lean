/- What two lists of lines share at both ends, plainly. No program in sight. -/
import Derived.Test.YtifkadmljokffaaLcs
set_option linter.unusedVariables false
namespace Go.Proofs.Ytifkadmljokffaa.Pre
open Go.RowKit Go.Proofs.YtifkadmljokffaaW.PrintWords Go.Proofs.YtifkadmljokffaaW.PrintMore

section
variable {α : Type} [DecidableEq α]
theorem cpre_nil_l (y : List α) : cpre [] y = 0 := by simp [cpre]
theorem cpre_nil_r (x : List α) : cpre x [] = 0 := by cases x <;> simp [cpre]
theorem cpre_cons (a b : α) (x y : List α) : cpre (a :: x) (b :: y) = if a = b then cpre x y + 1 else 0 := by rw [cpre]
theorem cpre_stop (x : List α) : ∀ y : List α, ∀ a b x' y', x.drop (cpre x y) = a :: x' → y.drop (cpre x y) = b :: y' → ¬ a = b := by
  induction x with
  | nil => intro y a b x' y' h; rw [cpre_nil_l] at h; cases h
  | cons c x ih =>
    intro y
    cases y with
    | nil => intro a b x' y' h1 h2; rw [cpre_nil_r] at h2; cases h2
    | cons d y =>
      intro a b x' y'
      rw [cpre_cons]
      by_cases e : c = d
      · rw [if_pos e]; intro h1 h2; exact ih y a b x' y' h1 h2
      · rw [if_neg e]
        intro h1 h2
        cases h1; cases h2
        exact e
/-- How long an end two lists share. -/
def csuf (x y : List α) : Nat := cpre x.reverse y.reverse
theorem csuf_le (x y : List α) : csuf x y ≤ x.length ∧ csuf x y ≤ y.length := by
  have := cpre_le x.reverse y.reverse
  simpa [csuf] using this
theorem csuf_drop (x y : List α) : x.drop (x.length - csuf x y) = y.drop (y.length - csuf x y) := by
  have h := cpre_take x.reverse y.reverse
  have h2 := congrArg List.reverse h
  rw [List.reverse_take, List.reverse_take] at h2
  simp only [List.reverse_reverse, List.length_reverse] at h2
  exact h2
end
/-- What Common tells of two lists without a fault. -/
def commonOf (a b : List ByteArray) : Nat × Nat := (cpre a b, csuf (a.drop (cpre a b)) (b.drop (cpre a b)))
def commonSpec (a b : List ByteArray) : Int × Int × Int × Int := if twoFault a b = (0, 0) then (((commonOf a b).1 : Nat), ((commonOf a b).2 : Nat), 0, 0) else (0, 0, twoFault a b)
theorem rdOf_rev (l : List ByteArray) (p s : Nat) (h : s + p < l.length) : (l.drop p).reverse.drop s = rdOf ByteArray.empty l ((l.length - 1 - s : Nat) : Int) :: (l.drop p).reverse.drop (s + 1) := by
  have hs : s < (l.drop p).reverse.length := by simp; omega
  rw [List.drop_eq_getElem_cons hs, rdOf_at _ _ _ (by omega)]
  congr 1
  rw [List.getElem_reverse, List.getElem_drop]
  congr 1
  simp
  omega
theorem commonOf_le (a b : List ByteArray) : (commonOf a b).1 + (commonOf a b).2 ≤ a.length ∧ (commonOf a b).1 + (commonOf a b).2 ≤ b.length := by
  have h1 := cpre_le a b
  have h2 := csuf_le (a.drop (cpre a b)) (b.drop (cpre a b))
  simp only [List.length_drop] at h2
  unfold commonOf
  simp only
  omega
/-- The beginning, the middle, the end. -/
theorem common_parts (a b : List ByteArray) {p s : Nat} (h : commonOf a b = (p, s)) : a.take p = b.take p ∧ a.drop (a.length - s) = b.drop (b.length - s) := by
  unfold commonOf at h
  injection h with h1 h2
  subst h1
  refine ⟨cpre_take a b, ?_⟩
  have h3 := csuf_drop (a.drop (cpre a b)) (b.drop (cpre a b))
  have h4 := csuf_le (a.drop (cpre a b)) (b.drop (cpre a b))
  have h5 := cpre_le a b
  rw [h2] at h3 h4
  simp only [List.length_drop, List.drop_drop] at h3 h4
  rw [show cpre a b + (a.length - cpre a b - s) = a.length - s by omega, show cpre a b + (b.length - cpre a b - s) = b.length - s by omega] at h3
  exact h3
theorem three_parts (a : List ByteArray) (p s : Nat) (h : p + s ≤ a.length) : a = a.take p ++ ((a.take (a.length - s)).drop p ++ a.drop (a.length - s)) := by
  have h1 : a.take p = (a.take (a.length - s)).take p := by rw [List.take_take, Nat.min_eq_left (by omega)]
  rw [← List.append_assoc, h1, List.take_append_drop, List.take_append_drop]
theorem dist_parts (p x y s : List ByteArray) : distOf (p ++ (x ++ s)) (p ++ (y ++ s)) = distOf x y := by
  unfold distOf
  rw [lcs_prefix, lcs_suffix]
  simp only [List.length_append]
  omega
theorem dist_common (a b : List ByteArray) : distOf ((a.take (a.length - (commonOf a b).2)).drop (commonOf a b).1) ((b.take (b.length - (commonOf a b).2)).drop (commonOf a b).1) = distOf a b := by
  have h := commonOf_le a b
  obtain ⟨⟨p, s⟩, e⟩ : ∃ q, commonOf a b = q := ⟨_, rfl⟩
  rw [e] at h ⊢
  obtain ⟨h1, h2⟩ := common_parts a b e
  have e1 := three_parts a p s h.1
  have e2 := three_parts b p s h.2
  conv => rhs; rw [e1, e2, h1, h2]
  rw [dist_parts]
theorem linesFault_sub {a b : List ByteArray} (h : List.Sublist b a) (z : linesFault a = (0, 0)) : linesFault b = (0, 0) := by
  obtain ⟨h1, h2⟩ := linesFault_ok.1 z
  exact linesFault_ok.2 ⟨Nat.le_trans h.length_le h1, fun s hs => h2 s (h.subset hs)⟩
theorem mid_sub (a : List ByteArray) (p q : Nat) : List.Sublist ((a.take q).drop p) a := (List.drop_sublist _ _).trans (List.take_sublist _ _)
end Go.Proofs.Ytifkadmljokffaa.Pre
