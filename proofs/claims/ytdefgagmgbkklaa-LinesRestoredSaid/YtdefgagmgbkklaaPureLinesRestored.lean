/- Lines that are joined and split again are the same lines: for all lines that may be joined. -/
import Derived.Test.YtdefgagmgbkklaaPL6
import Derived.Test.YtdefgagmgbkklaaLns
namespace Go.Proofs.Ytdefgagmgbkklaa.Pure
open Go.RowKit Go.Proofs.Ytdefgagmgbkklaa.PL Go.Proofs.Ytdefgagmgbkklaa.Pre Go.Proofs.YtdefgagmgbkklaaW.PrintWords Go.Proofs.YtdefgagmgbkklaaW.PrintLast

theorem lr_pair : changeforgelaw1_pair.f = some true := by decide +kernel
theorem LinesRestored : changeforgelaw1_LinesRestored.Pure := by
  intro l0 _ _ _
  unfold changeforgelaw1_LinesRestored.f
  simp only [lines_Join.f, lines_Split.f, changeforgeequal_Strings.f, lr_pair, Option.bind_some]
  by_cases c : (joinSpec l0).2.1 = 0
  · obtain ⟨z, hl, e⟩ := join_zero c
    rw [if_pos c, e]
    have hok := (linesFault_ok.1 z).2
    have ht : textLines (mkStr (joined l0)) = l0 := by
      unfold textLines
      rw [toList_mkStr]
      have := linesOf_joined l0 hok []
      rw [List.append_nil, linesOf_nil] at this
      simpa using this
    have hs : splitSpec (mkStr (joined l0)) = (l0, 0, 0) := by
      unfold splitSpec
      rw [size_mkStr, if_neg (by omega), ht, if_pos z]
    simp [hs]
  · rw [if_neg c]

end Go.Proofs.Ytdefgagmgbkklaa.Pure
