/- The digest of a list of strings that is extended by a string is the pair of the digests: for all lists and strings. -/
import Derived.Test.YtdefgagmgbkklaaPD6
import Derived.Test.YtdefgagmgbkklaaDgs
namespace Go.Proofs.Ytdefgagmgbkklaa.Pure
open Go.RowKit Go.Proofs.Ytdefgagmgbkklaa.PD Go.Proofs.Ytdefgagmgbkklaa.Pre Go.Proofs.YtdefgagmgbkklaaW.PrintWords Go.Proofs.YtdefgagmgbkklaaW.PrintLast

theorem de_closed : changeforgelaw1_closed.f = some true := by decide +kernel
theorem DigestStringsExtends : changeforgelaw1_DigestStringsExtends.Pure := by
  intro l0 a1 hl _ hs h1
  have hS : digest_Strings.f l0 = some (digStrings l0) := if_pos hs
  have hm : a1.size ≤ maxLen := Nat.le_trans h1 (by decide)
  have hS' : digest_Strings.f (l0 ++ [a1]) = some (digStrings (l0 ++ [a1])) := if_pos (by
    intro s h
    rcases List.mem_append.1 h with h | h
    · exact hs s h
    · simp at h; rw [h]; exact hm)
  have hO : digest_OfS.f a1 = some (if 4096 < a1.size then (0, 2, 0) else (dig (bytesOf a1), 0, 0)) := by
    unfold digest_OfS.f
    by_cases c : 4096 < a1.size
    · rw [if_pos c, if_pos c, if_pos hm]
    · rw [if_neg c, if_neg c]
  refine ⟨1, ?_⟩
  unfold changeforgelaw1_DigestStringsExtends.f
  have hll : l0.length < 8796093022208 := by omega
  simp only [Option.bind_some, List.nil_append, List.length_nil, Nat.zero_add, hS, hO]
  rw [if_pos hll, if_pos hll, hS']
  simp only [Option.bind_some]
  have T : ∀ x y z, changeforgelaw1_DigestStringsExtends.j0 1 x y z true = some true := by
    intro x y z; simp [changeforgelaw1_DigestStringsExtends.j0, de_closed]
  by_cases c1 : (digStrings l0).2.1 = 0
  · rw [if_pos c1]
    by_cases c2 : 4096 < a1.size
    · rw [if_pos c2]
      show (if (2 : Int) = 0 then _ else _) = _
      rw [if_neg (by decide)]
      exact T _ _ _
    · rw [if_neg c2]
      simp only [if_pos]
      by_cases c3 : (digStrings (l0 ++ [a1])).2.1 = 0
      · have e3 : ((digStrings (l0 ++ [a1])).2.1 != 0) = false := by simp [c3]
        rw [e3]
        have b1 : ¬ 120 < (l0 ++ [a1]).length := by
          intro h; unfold digStrings at c3; rw [if_pos h] at c3; cases c3
        have b0 : ¬ 120 < l0.length := by simp at b1; omega
        have hr := dsGo_range l0 0 2 (by decide) (by decide)
        have e4 : digStrings l0 = dsGo l0 0 2 := if_neg b0
        have e5 : digStrings (l0 ++ [a1]) = (digPair (digStrings l0).1 (dig (bytesOf a1)), 0, 0) := by
          rw [e4] at c1 ⊢
          unfold digStrings
          rw [if_neg b1, dsGo_append, if_pos c1, if_neg c2]
        have hd := dig_range (bytesOf a1)
        have e6 : digest_Pair.f (digStrings l0).1 (dig (bytesOf a1)) = some (digPair (digStrings l0).1 (dig (bytesOf a1)), 0, 0) := by
          rw [e4]; unfold digest_Pair.f; rw [if_neg (by omega), if_neg (by omega)]
        rw [e5]
        simp [changeforgelaw1_DigestStringsExtends.j0, e6, de_closed]
      · have e3 : ((digStrings (l0 ++ [a1])).2.1 != 0) = true := by simpa using c3
        rw [e3]
        exact T _ _ _
  · rw [if_neg c1]; exact T _ _ _

end Go.Proofs.Ytdefgagmgbkklaa.Pure
