/- The kept lines are a common subsequence of both texts, and no common subsequence is longer. -/
import Derived.Test.YtifkadmljokffaaPC4
namespace Go.Proofs.Ytifkadmljokffaa.Pure
open Go.RowKit Go.Proofs.Ytifkadmljokffaa.PC Go.Proofs.Ytifkadmljokffaa.Pre Go.Proofs.YtifkadmljokffaaW.PrintWords Go.Proofs.YtifkadmljokffaaW.PrintLast

theorem dc_moved : changeforgelaw1_moved.f = some true := by
  unfold changeforgelaw1_moved.f diff_Distance.f
  rw [show ((⟨#[120]⟩ : ByteArray)) = mkStr [120] from rfl, show ((⟨#[121]⟩ : ByteArray)) = mkStr [121] from rfl, dist_moved]
  rfl
theorem dc_within {l a : List ByteArray} (h : l.length ≤ 9223372036854775806) (k : a.length ≤ 9223372036854775806) : changeforgelaw1_within.f l a = some (subl l a) := if_pos ⟨h, k⟩
theorem DiffCommonLongest : changeforgelaw1_DiffCommonLongest.Pure := by
  intro l0 l1 l2 h0 g0 _ h1 g1 _ h2 g2 _
  refine ⟨1, ?_⟩
  unfold changeforgelaw1_DiffCommonLongest.f
  simp only [diff_Common.f, Option.bind_some, changeforgelaw1_DiffCommonLongest.j0, dc_moved]
  unfold commonLines
  rcases twoFault_or l0 l1 with z | z
  · rw [if_pos z]
    obtain ⟨k1, k2, k3⟩ := keptOf_facts l0 l1
    have n1 := k1.length_le
    simp only
    rw [if_pos trivial, dc_within (by omega) (by omega), dc_within (l := keptOf l0 l1) (a := l1) (by omega) (by omega), dc_within (l := l2) (a := l0) (by omega) (by omega), dc_within (l := l2) (a := l1) (by omega) (by omega)]
    simp only [Option.bind_some]
    rw [(subl_iff _ _).2 k1, (subl_iff _ _).2 k2, if_pos rfl, if_neg (by decide)]
    by_cases c1 : subl l2 l0 = true
    · rw [if_pos c1]
      by_cases c2 : subl l2 l1 = true
      · have := le_lcs ((subl_iff _ _).1 c1) ((subl_iff _ _).1 c2)
        rw [if_pos c2, if_pos (by omega)]
      · rw [if_neg c2]
    · rw [if_neg c1]
  · have e : ¬ twoFault l0 l1 = (0, 0) := fun h => z (congrArg Prod.fst h)
    simp only [if_neg e]
    rw [if_neg z]

end Go.Proofs.Ytifkadmljokffaa.Pure
