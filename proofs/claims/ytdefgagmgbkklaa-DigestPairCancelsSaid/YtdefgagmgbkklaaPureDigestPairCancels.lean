/- With one digest fixed, pairs of different digests have different digests: for all numbers. -/
import Derived.Test.YtdefgagmgbkklaaP4
namespace Go.Proofs.Ytdefgagmgbkklaa.Pure
open Go.RowKit Go.Proofs.Ytdefgagmgbkklaa.P Go.Proofs.Ytdefgagmgbkklaa.Pre Go.Proofs.YtdefgagmgbkklaaW.PrintWords Go.Proofs.YtdefgagmgbkklaaW.PrintLast

theorem dp_closed : changeforgelaw1_closed.f = some true := by decide +kernel
theorem dp_of (a b : Int) : digest_Pair.f a b = if a < 0 ∨ 2305843009213693951 ≤ a then some (0, 3, 0) else if b < 0 ∨ 2305843009213693951 ≤ b then some (0, 3, 1) else some (digPair a b, 0, 0) := rfl

theorem DigestPairCancels : changeforgelaw1_DigestPairCancels.Pure := by
  intro a b c _ _ _
  refine ⟨1, ?_⟩
  unfold changeforgelaw1_DigestPairCancels.f
  simp only [dp_of, changeforgelaw1_DigestPairCancels.j0, dp_closed]
  by_cases ha : a < 0 ∨ 2305843009213693951 ≤ a
  · by_cases hb : b < 0 ∨ 2305843009213693951 ≤ b <;> by_cases hc : c < 0 ∨ 2305843009213693951 ≤ c <;> simp [ha, hb, hc]
  by_cases hb : b < 0 ∨ 2305843009213693951 ≤ b
  · by_cases hc : c < 0 ∨ 2305843009213693951 ≤ c <;> simp [ha, hb, hc]
  by_cases hc : c < 0 ∨ 2305843009213693951 ≤ c
  · simp [ha, hb, hc]
  have k1 : ((digPair a b == digPair a c) == (b == c)) = true := beq_iff_beq ⟨digPair_right (by omega) (by omega) (by omega) (by omega), fun h => by rw [h]⟩
  have k2 : ((digPair b a == digPair c a) == (b == c)) = true := beq_iff_beq ⟨digPair_left (by omega) (by omega) (by omega) (by omega), fun h => by rw [h]⟩
  generalize digPair a b = x1 at *
  generalize digPair a c = x2 at *
  generalize digPair b a = x3 at *
  generalize digPair c a = x4 at *
  rw [if_neg ha, if_neg ha, if_neg hb, if_neg hc, if_neg hb, if_neg hc, if_neg ha, if_neg ha]
  simp only [Option.bind_some, if_true, bne_self_eq_false, Bool.false_eq_true, if_false]
  rw [if_pos k1, if_pos k2]
end Go.Proofs.Ytdefgagmgbkklaa.Pure
