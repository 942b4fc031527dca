/- Sequences of at most six bytes of the same length have different digests unless they are equal: for all such sequences. -/
import Derived.Test.YtdefgagmgbkklaaP4
namespace Go.Proofs.Ytdefgagmgbkklaa.Pure
open Go.RowKit Go.Proofs.Ytdefgagmgbkklaa.P Go.Proofs.Ytdefgagmgbkklaa.Pre Go.Proofs.YtdefgagmgbkklaaW.PrintWords Go.Proofs.YtdefgagmgbkklaaW.PrintLast

theorem di_closed : changeforgelaw1_closed.f = some true := by decide +kernel
/-- How great a digest is that takes up d bytes more. -/
def diB (d : Nat) : Int := 2 * 258 ^ (6 - d)
theorem diB_succ {d : Nat} (h : d + 1 ≤ 6) : diB d = 258 * diB (d + 1) := by
  unfold diB
  rw [show 6 - d = (6 - (d + 1)) + 1 by omega, Int.pow_succ]
  omega
theorem diB_le {d : Nat} (h : d ≤ 6) : diB d ≤ 590000000000000 ∧ 1 < diB d := by
  have : d = 0 ∨ d = 1 ∨ d = 2 ∨ d = 3 ∨ d = 4 ∨ d = 5 ∨ d = 6 := by omega
  rcases this with rfl | rfl | rfl | rfl | rfl | rfl | rfl <;> decide +kernel
theorem di_inj (a : List Int) : ∀ (b : List Int) (g h : Int), a.length = b.length → a.length ≤ 6 → bytesOk a = true → bytesOk b = true → 0 ≤ g → g < diB a.length → 0 ≤ h → h < diB a.length →
    a.foldl digStep g = b.foldl digStep h → g = h ∧ a = b := by
  induction a with
  | nil =>
    intro b g h hl _ _ _ _ _ _ _ e
    obtain rfl : b = [] := List.eq_nil_of_length_eq_zero hl.symm
    exact ⟨e, rfl⟩
  | cons x a ih =>
    intro b g h hl h6 ba bb g0 g1 h0 h1 e
    cases b with
    | nil => simp at hl
    | cons y b =>
      simp only [List.length_cons] at hl h6 g1 h1
      obtain ⟨⟨x0, x1⟩, ba'⟩ := bytesOk_cons.mp ba
      obtain ⟨⟨y0, y1⟩, bb'⟩ := bytesOk_cons.mp bb
      have hs := diB_succ (d := a.length) (by omega)
      have hm := (diB_le (d := a.length) (by omega)).1
      generalize hA : diB a.length = A at *
      generalize hB : diB (a.length + 1) = B at *
      have eg : digStep g x = g * 257 + x + 1 := by unfold digStep; omega
      have eh : digStep h y = h * 257 + y + 1 := by unfold digStep; omega
      simp only [List.foldl_cons] at e
      rw [eg, eh] at e
      obtain ⟨e1, e2⟩ := ih b (g * 257 + x + 1) (h * 257 + y + 1) (by omega) (by omega) ba' bb' (by omega) (by omega) (by omega) (by omega) e
      exact ⟨by omega, by rw [e2, show x = y by omega]⟩

theorem DigestInjective : changeforgelaw1_DigestInjective.Pure := by
  intro l o _ _ hl _ _ ho
  have bl := bytesOk_of_wf hl
  have bo := bytesOk_of_wf ho
  refine ⟨1, ?_⟩
  unfold changeforgelaw1_DigestInjective.f
  simp only [changeforgelaw1_DigestInjective.j0, di_closed, Option.bind_some]
  by_cases e : (l.length : Int) = (o.length : Int)
  · rw [if_pos e]
    by_cases c : (l.length : Int) > 6
    · rw [decide_eq_true c, if_pos rfl]
    · rw [decide_eq_false c, if_neg (by decide)]
      have el : digest_Of.f l = some (dig l, 0, 0) := by unfold digest_Of.f; rw [if_neg (by omega), if_pos bl]
      have eo : digest_Of.f o = some (dig o, 0, 0) := by unfold digest_Of.f; rw [if_neg (by omega), if_pos bo]
      have key : (dig l == dig o) = decide (l = o) := by
        rw [Bool.eq_iff_iff, beq_iff_eq, decide_eq_true_iff]
        constructor
        · intro h
          have b1 := (diB_le (d := l.length) (by omega)).2
          exact (di_inj l o 1 1 (by omega) (by omega) bl bo (by omega) b1 (by omega) b1 h).2
        · rintro rfl; rfl
      rw [el, eo]
      simp only [Option.bind_some, changeforgelaw1_same.f, strOfNums_inj bl bo, key, beq_self_eq_true, if_true]
  · rw [if_neg e]; simp
end Go.Proofs.Ytdefgagmgbkklaa.Pure
