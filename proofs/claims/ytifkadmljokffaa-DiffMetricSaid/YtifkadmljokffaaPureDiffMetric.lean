/- The distance of texts is a metric. -/
import Derived.Test.YtifkadmljokffaaPM3
namespace Go.Proofs.Ytifkadmljokffaa.Pure
open Go.RowKit Go.Proofs.Ytifkadmljokffaa.PM Go.Proofs.Ytifkadmljokffaa.Pre Go.Proofs.YtifkadmljokffaaW.PrintWords Go.Proofs.YtifkadmljokffaaW.PrintLast

theorem dm_moved : changeforgelaw1_moved.f = some true := by
  unfold changeforgelaw1_moved.f diff_Distance.f
  rw [show ((⟨#[120]⟩ : ByteArray)) = mkStr [120] from rfl, show ((⟨#[121]⟩ : ByteArray)) = mkStr [121] from rfl, dist_moved]
  rfl
theorem DiffMetric : changeforgelaw1_DiffMetric.Pure := by
  intro l0 l1 l2 h0 _ _ h1 _ _ h2 _ _
  refine ⟨1, ?_⟩
  unfold changeforgelaw1_DiffMetric.f
  simp only [diff_Distance.f, Option.bind_some, changeforgelaw1_DiffMetric.j0, changeforgeequal_Strings.f, dm_moved]
  by_cases c1 : (distSpec l0 l1).2.1 = 0
  · rw [if_pos c1]
    by_cases c2 : (distSpec l1 l2).2.1 = 0
    · rw [if_pos c2]
      by_cases c3 : (distSpec l0 l2).2.1 = 0
      · rw [if_pos c3]
        obtain ⟨z1, e1⟩ := dist_zero c1
        obtain ⟨z2, e2⟩ := dist_zero c2
        obtain ⟨z3, e3⟩ := dist_zero c3
        obtain ⟨za, zb⟩ := twoFault_ok.1 z1
        have e4 : distSpec l1 l0 = (distOf l1 l0, 0, 0) := if_pos (twoFault_ok.2 ⟨zb, za⟩)
        have b1 := distOf_range l0 l1
        have b2 := distOf_range l1 l2
        unfold maxLen at h0 h1 h2
        have l120 := (linesFault_ok.1 za).1
        have m120 := (linesFault_ok.1 zb).1
        have n120 := (linesFault_ok.1 (twoFault_ok.1 z2).2).1
        rw [e1, e2, e3, e4]
        simp only [distOf_zero]
        rw [if_neg (by decide), if_pos (by rw [w64 (by omega) (by omega)]; exact distOf_tri l0 l1 l2), if_pos (distOf_comm l0 l1), if_pos (by simp)]
      · rw [if_neg c3, if_pos trivial]
    · rw [if_neg c2, if_pos trivial]
  · rw [if_neg c1, if_pos trivial]

end Go.Proofs.Ytifkadmljokffaa.Pure
