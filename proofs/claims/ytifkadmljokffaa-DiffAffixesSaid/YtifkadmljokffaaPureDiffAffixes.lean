/- What two texts share at both ends does not influence their distance. -/
import Derived.Test.YtifkadmljokffaaPA4
namespace Go.Proofs.Ytifkadmljokffaa.Pure
open Go.RowKit Go.Proofs.Ytifkadmljokffaa.PA Go.Proofs.Ytifkadmljokffaa.Pre Go.Proofs.YtifkadmljokffaaW.PrintWords Go.Proofs.YtifkadmljokffaaW.PrintLast

theorem da_moved : changeforgelaw1_moved.f = some true := by
  unfold changeforgelaw1_moved.f diff_Distance.f
  rw [show ((⟨#[120]⟩ : ByteArray)) = mkStr [120] from rfl, show ((⟨#[121]⟩ : ByteArray)) = mkStr [121] from rfl, dist_moved]
  rfl
theorem DiffAffixes : changeforgelaw1_DiffAffixes.Pure := by
  intro l0 l1 h0 _ _ h1 _ _
  refine ⟨1, ?_⟩
  unfold changeforgelaw1_DiffAffixes.f
  simp only [lines_Common.f, Option.bind_some, changeforgelaw1_DiffAffixes.j0, da_moved]
  rcases twoFault_or l0 l1 with z | z
  · obtain ⟨za, zb⟩ := twoFault_ok.1 z
    have l120 := (linesFault_ok.1 za).1
    have m120 := (linesFault_ok.1 zb).1
    have hle := commonOf_le l0 l1
    have hd := dist_common l0 l1
    have e : commonSpec l0 l1 = (((commonOf l0 l1).1 : Int), ((commonOf l0 l1).2 : Int), 0, 0) := if_pos z
    rw [e]
    generalize (commonOf l0 l1).1 = p at *
    generalize (commonOf l0 l1).2 = s at *
    simp only
    rw [if_pos trivial, w64 (n := (p : Int) + s) (by omega) (by omega), if_neg (by omega)]
    rw [decide_eq_false (p := (p : Int) + s > l1.length) (by omega), if_neg (by decide)]
    rw [w64 (n := (l0.length : Int) - s) (by omega) (by omega), w64 (n := (l1.length : Int) - s) (by omega) (by omega)]
    rw [show ((l0.length : Int) - s).toNat = l0.length - s by omega, show ((l1.length : Int) - s).toNat = l1.length - s by omega, Int.toNat_natCast]
    have e1 : distSpec l0 l1 = (distOf l0 l1, 0, 0) := if_pos z
    have e2 : distSpec ((l0.take (l0.length - s)).drop p) ((l1.take (l1.length - s)).drop p) = (distOf l0 l1, 0, 0) := by
      unfold distSpec
      rw [if_pos (twoFault_ok.2 ⟨linesFault_sub (mid_sub _ _ _) za, linesFault_sub (mid_sub _ _ _) zb⟩), hd]
    simp only [diff_Distance.f, Option.bind_some, e1, e2]
    rw [if_pos (by omega), if_pos (by omega), if_pos (by omega), if_pos (by omega), if_pos (by omega)]
    rfl
  · have e : commonSpec l0 l1 = (0, 0, twoFault l0 l1) := if_neg (fun h => z (by rw [h]))
    rw [e]
    simp only
    rw [if_neg z, if_pos trivial, if_neg z]

end Go.Proofs.Ytifkadmljokffaa.Pure
