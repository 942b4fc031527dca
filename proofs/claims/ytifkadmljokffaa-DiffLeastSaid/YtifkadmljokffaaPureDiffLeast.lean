/- The script costs the distance, and no patch that does the same costs less. -/
import Derived.Test.YtifkadmljokffaaPS6
namespace Go.Proofs.Ytifkadmljokffaa.Pure
open Go.RowKit Go.Proofs.Ytifkadmljokffaa.PS Go.Proofs.Ytifkadmljokffaa.Pre Go.Proofs.YtifkadmljokffaaW.PrintWords Go.Proofs.YtifkadmljokffaaW.PrintLast

theorem dl_moved : changeforgelaw1_moved.f = some true := by
  unfold changeforgelaw1_moved.f diff_Distance.f
  rw [show ((⟨#[120]⟩ : ByteArray)) = mkStr [120] from rfl, show ((⟨#[121]⟩ : ByteArray)) = mkStr [121] from rfl, dist_moved]
  rfl
theorem dl_map (p : List Hk) : ((p.map (fun h_ : Hk => (⟨h_.1, h_.2.1, h_.2.2⟩ : S70))).map (fun x_ : S70 => ((x_.f0, x_.f1, x_.f2) : Hk))) = p := by
  rw [List.map_map]
  exact List.map_id' p
theorem dl_cut {t : List ByteArray} {a b : Int} : ∀ x ∈ cutOut t a b, x ∈ t := fun _ hx => List.mem_of_mem_take (List.mem_of_mem_drop hx)
theorem dl_lines (t : List ByteArray) (ht : ∀ s ∈ t, isLine s) (p : List Hk) : ∀ (low at_ : Int), okFrom p low → ∀ s ∈ resAt t p at_, isLine s := by
  induction p with
  | nil => intro low at_ _ s hs; exact ht s (List.mem_of_mem_drop hs)
  | cons h r ih =>
    intro low at_ hok s hs
    have hs : s ∈ cutOut t at_ h.1 ++ h.2.2 ++ resAt t r (hkEnd h) := hs
    rcases List.mem_append.1 hs with hs | hs
    · rcases List.mem_append.1 hs with hs | hs
      · exact ht s (dl_cut s hs)
      · exact (linesFault_ok.1 hok.1.2.2.2.2.1).2 s hs
    · exact ih _ _ hok.2 s hs
theorem dl_cost (xs : List S70) (h : patchFault (xs.map (fun x_ : S70 => ((x_.f0, x_.f1, x_.f2) : Hk))) = (0, 0)) : changeforgelaw1_cost.f xs = some (costOf (xs.map (fun x_ : S70 => ((x_.f0, x_.f1, x_.f2) : Hk)))) := by
  obtain ⟨z1, z2⟩ := patchFault_ok.1 h
  rw [List.length_map] at z1
  unfold changeforgelaw1_cost.f
  refine if_pos ⟨by omega, List.all_eq_true.2 fun x hx => decide_eq_true ?_⟩
  have := okFrom_mem z2 ((fun x_ : S70 => ((x_.f0, x_.f1, x_.f2) : Hk)) x) (List.mem_map_of_mem hx)
  have a := (linesFault_ok.1 this.1).1
  have b := (linesFault_ok.1 this.2).1
  simp only at a b
  omega
theorem DiffLeast : changeforgelaw1_DiffLeast.Pure := by
  intro l0 l1 h0 _ _ h1 _
  unfold changeforgelaw1_DiffLeast.f
  simp only [diff_Script.f, diff_Distance.f, textpatch_Apply.f, Option.bind_some, dl_moved]
  by_cases c : (applySpec (l1.map (fun x_ : S70 => ((x_.f0, x_.f1, x_.f2) : Hk))) l0).2.1 = 0
  · rw [if_pos c]
    obtain ⟨a1, a2, a3, a4, a5⟩ := apply_zero c
    rw [a5]
    simp only
    have hl : linesFault (resAt l0 (l1.map (fun x_ : S70 => ((x_.f0, x_.f1, x_.f2) : Hk))) 0) = (0, 0) := linesFault_ok.2 ⟨a4, dl_lines l0 (linesFault_ok.1 a2).2 _ _ _ (patchFault_ok.1 a1).2⟩
    have hz := twoFault_ok.2 ⟨a2, hl⟩
    obtain ⟨s1, s2, s3, s4⟩ := script_main l0 _ a2 hl
    have hd : distSpec l0 (resAt l0 (l1.map (fun x_ : S70 => ((x_.f0, x_.f1, x_.f2) : Hk))) 0) = (distOf l0 (resAt l0 (l1.map (fun x_ : S70 => ((x_.f0, x_.f1, x_.f2) : Hk))) 0), 0, 0) := if_pos hz
    have hs : scriptOr l0 (resAt l0 (l1.map (fun x_ : S70 => ((x_.f0, x_.f1, x_.f2) : Hk))) 0) = (scriptOf l0 (resAt l0 (l1.map (fun x_ : S70 => ((x_.f0, x_.f1, x_.f2) : Hk))) 0), 0, 0) := if_pos hz
    rw [hd, hs]
    simp only [if_true]
    rw [dl_cost _ (by rw [dl_map]; exact s1), dl_map, s4, dl_cost _ a1]
    simp only [Option.bind_some, if_true]
    rw [if_pos (patch_least l0 _ (patchFault_ok.1 a1).2 a3)]
  · rw [if_neg c]
end Go.Proofs.Ytifkadmljokffaa.Pure
