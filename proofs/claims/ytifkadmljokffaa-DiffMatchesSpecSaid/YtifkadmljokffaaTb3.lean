/- A table of the other order: what one more line can add. -/
import Derived.Test.YtifkadmljokffaaTb2
set_option linter.unusedVariables false
namespace Go.Proofs.Ytifkadmljokffaa.Pre
open Go.RowKit Go.Proofs.YtifkadmljokffaaW.PrintWords Go.Proofs.YtifkadmljokffaaW.PrintMore
theorem lcs_more (a : ByteArray) (x y : List ByteArray) : lcs (a :: x) y ≤ lcs x y + 1 := by
  have h := lcs_tri y (a :: x) x
  have h2 : lcs (a :: x) x = x.length := by
    have := lcs_suffix x [a] []
    rw [lcs_nil_r] at this
    simpa using this
  rw [lcs_comm (a :: x) y, lcs_comm x y]
  rw [h2, List.length_cons] at h
  omega
theorem lcsAt_mono (a b : List ByteArray) (p q : Nat) (hp : p < a.length) (hq : q < b.length) : lcsAt a b (p + 1) q ≤ lcsAt a b (p + 1) (q + 1) + 1 ∧ lcsAt a b p (q + 1) ≤ lcsAt a b (p + 1) (q + 1) + 1 := by
  unfold lcsAt
  have e1 := rdOf_drop ByteArray.empty a p hp
  have e2 := rdOf_drop ByteArray.empty b q hq
  have h1 := lcs_more (rdOf ByteArray.empty b (q : Int)) (b.drop (q + 1)) (a.drop (p + 1))
  have h2 := lcs_more (rdOf ByteArray.empty a (p : Int)) (a.drop (p + 1)) (b.drop (q + 1))
  rw [lcs_comm _ (a.drop (p + 1)), lcs_comm _ (a.drop (p + 1)), ← e2] at h1
  rw [← e1] at h2
  omega
end Go.Proofs.Ytifkadmljokffaa.Pre
