/- The lines of a text behind joined lines are those lines and the text's lines: for all lines and texts. -/
import Derived.Test.YtdefgagmgbkklaaPL7
import Derived.Test.YtdefgagmgbkklaaLns
namespace Go.Proofs.Ytdefgagmgbkklaa.Pure
open Go.RowKit Go.Proofs.Ytdefgagmgbkklaa.PL Go.Proofs.Ytdefgagmgbkklaa.Pre Go.Proofs.YtdefgagmgbkklaaW.PrintWords Go.Proofs.YtdefgagmgbkklaaW.PrintLast

theorem lc_pair : changeforgelaw1_pair.f = some true := by decide +kernel
theorem LinesConcatenated : changeforgelaw1_LinesConcatenated.Pure := by
  intro l0 a1 _ _ _ hsz
  refine ⟨1, ?_⟩
  unfold changeforgelaw1_LinesConcatenated.f
  simp only [lines_Join.f, lines_Split.f, Option.bind_some]
  have hjs : (joinSpec l0).1.size ≤ 4096 := by
    unfold joinSpec
    split
    · split
      · simp [size_mkStr]
      · simp [size_mkStr]; omega
    · simp [size_mkStr]
  rw [if_pos (by omega)]
  have j0t : ∀ x y z, changeforgelaw1_LinesConcatenated.j0 1 x y z true = some true := by
    intro x y z
    simp [changeforgelaw1_LinesConcatenated.j0, lc_pair]
  by_cases c : (joinSpec l0).2.1 = 0
  · rw [if_pos c]
    by_cases c1 : (splitSpec a1).2.1 = 0
    · rw [if_pos c1]
      obtain ⟨z0, _, e0⟩ := join_zero c
      obtain ⟨_, z1, e1⟩ := split_zero c1
      by_cases c2 : (splitSpec ((joinSpec l0).1 ++ a1)).2.1 = 0
      · obtain ⟨_, z2, e2⟩ := split_zero c2
        have h0 := linesFault_ok.1 z0
        have h1 := linesFault_ok.1 z1
        have ht : textLines ((joinSpec l0).1 ++ a1) = l0 ++ textLines a1 := by
          rw [e0]
          unfold textLines
          rw [show ((mkStr (joined l0) ++ a1 : ByteArray)).data.toList = joined l0 ++ a1.data.toList by simp [ByteArray.data_append, toList_mkStr]]
          exact linesOf_joined l0 h0.2 _
        rw [e2, e1, ht]
        simp only [changeforgelaw1_LinesConcatenated.j0, changeforgeequal_Strings.f, Option.bind_some, List.nil_append, List.length_nil, List.length_append]
        rw [if_neg (by decide), if_pos (by omega), if_pos (by omega)]
        simp [lc_pair]
      · have : ((splitSpec ((joinSpec l0).1 ++ a1)).2.1 != 0) = true := by simpa using c2
        rw [this]
        exact j0t _ _ _
    · rw [if_neg c1]; exact j0t _ _ _
  · rw [if_neg c]; exact j0t _ _ _

end Go.Proofs.Ytdefgagmgbkklaa.Pure
