/- The script of two texts changes the one into the other. -/
import Derived.Test.YtifkadmljokffaaPS6
namespace Go.Proofs.Ytifkadmljokffaa.Pure
open Go.RowKit Go.Proofs.Ytifkadmljokffaa.PS Go.Proofs.Ytifkadmljokffaa.Pre Go.Proofs.YtifkadmljokffaaW.PrintWords Go.Proofs.YtifkadmljokffaaW.PrintLast

theorem da_moved : changeforgelaw1_moved.f = some true := by
  unfold changeforgelaw1_moved.f diff_Distance.f
  rw [show ((⟨#[120]⟩ : ByteArray)) = mkStr [120] from rfl, show ((⟨#[121]⟩ : ByteArray)) = mkStr [121] from rfl, dist_moved]
  rfl
theorem da_map (p : List Hk) : ((p.map (fun h_ : Hk => (⟨h_.1, h_.2.1, h_.2.2⟩ : S70))).map (fun x_ : S70 => ((x_.f0, x_.f1, x_.f2) : Hk))) = p := by
  rw [List.map_map]
  exact List.map_id' p
theorem DiffApplies : changeforgelaw1_DiffApplies.Pure := by
  intro l0 l1 h0 _ _ h1 _ _
  unfold changeforgelaw1_DiffApplies.f
  simp only [diff_Script.f, textpatch_Apply.f, changeforgeequal_Strings.f, Option.bind_some, da_moved, da_map]
  unfold scriptOr
  rcases twoFault_or l0 l1 with z | z
  · rw [if_pos z]
    obtain ⟨za, zb⟩ := twoFault_ok.1 z
    obtain ⟨s1, s2, s3, s4⟩ := script_main l0 l1 za zb
    have l120 := (linesFault_ok.1 zb).1
    rw [apply_good s1 za s2 (by rw [s3]; omega), s3]
    simp
  · rw [if_neg (show ¬ twoFault l0 l1 = (0, 0) from fun e => z (by rw [e])), if_neg (show ¬ (([] : List Hk), twoFault l0 l1).2.1 = 0 from z)]
end Go.Proofs.Ytifkadmljokffaa.Pure
