/- What the functions of package digest answer is what the reference answers: for all arguments. -/
import Derived.Test.YtdefgagmgbkklaaPD5
import Derived.Test.YtdefgagmgbkklaaDgs
namespace Go.Proofs.Ytdefgagmgbkklaa.Pure
open Go.RowKit Go.Proofs.Ytdefgagmgbkklaa.PD Go.Proofs.Ytdefgagmgbkklaa.Pre Go.Proofs.YtdefgagmgbkklaaW.PrintWords Go.Proofs.YtdefgagmgbkklaaW.PrintLast

theorem dm_closed : changeforgelaw1_closed.f = some true := by decide +kernel
theorem DigestMatchesSpec : changeforgelaw1_DigestMatchesSpec.Pure := by
  intro l0 a1 a2 l3 hl _ hb h1 h2 _ _ hs
  have bl := bytesOk_of_wf hb
  have hS : digest_Strings.f l3 = some (digStrings l3) := if_pos hs
  have hS' : changeforgeref1_DigestStrings.f l3 = some (digStrings l3) := if_pos hs
  have J0 : changeforgelaw1_DigestMatchesSpec.j0 2 a1 a2 l3 = some true := by
    simp only [changeforgelaw1_DigestMatchesSpec.j0, digest_Pair.f, changeforgeref1_IsDigest.f, changeforgeref1_IsDigest_0.f, changeforgeref1_At.f, changeforgeref1_DigestPair.f]
    by_cases c1 : a1 < 0 ∨ 2305843009213693951 ≤ a1
    · rw [if_pos c1]
      have e1 : (if a1 ≥ 0 then some (decide (a1 < 2305843009213693951)) else some false) = some false := by
        by_cases c : a1 ≥ 0
        · rw [if_pos c, decide_eq_false (by omega)]
        · rw [if_neg c]
      rw [e1]
      simp [changeforgelaw1_DigestMatchesSpec.j3, hS, hS', dm_closed]
    · rw [if_neg c1]
      have e1 : (if a1 ≥ 0 then some (decide (a1 < 2305843009213693951)) else some false) = some true := by
        rw [if_pos (by omega), decide_eq_true (by omega)]
      rw [e1]
      by_cases c2 : a2 < 0 ∨ 2305843009213693951 ≤ a2
      · rw [if_pos c2]
        have e2 : (if a2 ≥ 0 then some (decide (a2 < 2305843009213693951)) else some false) = some false := by
          by_cases c : a2 ≥ 0
          · rw [if_pos c, decide_eq_false (by omega)]
          · rw [if_neg c]
        rw [e2]
        simp [changeforgelaw1_DigestMatchesSpec.j2, hS, hS', dm_closed]
      · rw [if_neg c2]
        have e2 : (if a2 ≥ 0 then some (decide (a2 < 2305843009213693951)) else some false) = some true := by
          rw [if_pos (by omega), decide_eq_true (by omega)]
        rw [e2, if_pos ⟨⟨by omega, by omega⟩, ⟨by omega, by omega⟩⟩]
        simp [changeforgelaw1_DigestMatchesSpec.j1, hS, hS', dm_closed]
  refine ⟨2, ?_⟩
  unfold changeforgelaw1_DigestMatchesSpec.f
  by_cases c : 4096 < l0.length
  · have e : digest_Of.f l0 = some (0, 2, 0) := if_pos c
    rw [e]
    simp only [Option.bind_some, changeforgeref1_At.f]
    rw [if_pos (by omega)]
    simpa using J0
  · have e : digest_Of.f l0 = some (dig l0, 0, 0) := by unfold digest_Of.f; rw [if_neg c, if_pos bl]
    have e' : changeforgeref1_DigestOf.f l0 = some (dig l0) := if_pos ⟨by omega, bl⟩
    rw [e]
    simp only [Option.bind_some]
    rw [if_neg (by omega), e']
    simpa using J0

end Go.Proofs.Ytdefgagmgbkklaa.Pure
