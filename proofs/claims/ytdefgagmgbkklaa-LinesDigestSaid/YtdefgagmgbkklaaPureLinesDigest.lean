/- Texts with the same lines have the same digests: for all lines and texts. -/
import Derived.Test.YtdefgagmgbkklaaPD7
import Derived.Test.YtdefgagmgbkklaaDgs
import Derived.Test.YtdefgagmgbkklaaLns
namespace Go.Proofs.Ytdefgagmgbkklaa.Pure
open Go.RowKit Go.Proofs.Ytdefgagmgbkklaa.PD Go.Proofs.Ytdefgagmgbkklaa.Pre Go.Proofs.YtdefgagmgbkklaaW.PrintWords Go.Proofs.YtdefgagmgbkklaaW.PrintLast

theorem ld_pair : changeforgelaw1_pair.f = some true := by decide +kernel
theorem LinesDigest : changeforgelaw1_LinesDigest.Pure := by
  intro l0 a1 _ _ _ _
  refine ⟨1, ?_⟩
  unfold changeforgelaw1_LinesDigest.f
  simp only [lines_Join.f, lines_Split.f, changeforgeequal_Strings.f, Option.bind_some]
  have T : ∀ x y, changeforgelaw1_LinesDigest.j0 1 x y true = some true := by
    intro x y; simp [changeforgelaw1_LinesDigest.j0, ld_pair]
  by_cases c1 : (joinSpec l0).2.1 = 0
  · rw [if_pos c1]
    by_cases c2 : (splitSpec a1).2.1 = 0
    · rw [if_pos c2]
      by_cases c3 : l0 = (splitSpec a1).1
      · obtain ⟨_, hl, e⟩ := join_zero c1
        have hsz : ¬ 4096 < (mkStr (joined l0)).size := by rw [size_mkStr]; omega
        have hO : digest_OfS.f (mkStr (joined l0)) = some (dig (bytesOf (mkStr (joined l0))), 0, 0) := if_neg hsz
        rw [← c3]
        simp [changeforgelaw1_LinesDigest.j0, lines_Join.f, e, hO, ld_pair]
      · rw [decide_eq_false c3]; exact T _ _
    · rw [if_neg c2]; exact T _ _
  · rw [if_neg c1]; exact T _ _

end Go.Proofs.Ytdefgagmgbkklaa.Pure
