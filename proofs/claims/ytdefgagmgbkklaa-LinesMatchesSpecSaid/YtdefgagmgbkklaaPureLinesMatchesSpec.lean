/- What the lines functions answer is what the reference answers: for all texts and all lines. -/
import Derived.Test.YtdefgagmgbkklaaPL5
import Derived.Test.YtdefgagmgbkklaaLns
namespace Go.Proofs.Ytdefgagmgbkklaa.Pure
open Go.RowKit Go.Proofs.Ytdefgagmgbkklaa.PL Go.Proofs.Ytdefgagmgbkklaa.Pre Go.Proofs.YtdefgagmgbkklaaW.PrintWords Go.Proofs.YtdefgagmgbkklaaW.PrintLast

theorem lm_pair : changeforgelaw1_pair.f = some true := by decide +kernel
theorem LinesMatchesSpec : changeforgelaw1_LinesMatchesSpec.Pure := by
  intro l0 a1 _ _ _ _
  unfold changeforgelaw1_LinesMatchesSpec.f
  simp [lines_Split.f, changeforgeref1_Split.f, lines_Join.f, changeforgeref1_Join.f, lines_Validate.f, changeforgeref1_LinesFault.f, changeforgeequal_Strings.f, lm_pair]

end Go.Proofs.Ytdefgagmgbkklaa.Pure
