/- Sequences that differ only in their last byte have different digests: for all sequences and bytes. -/
import Derived.Test.YtdefgagmgbkklaaP4
namespace Go.Proofs.Ytdefgagmgbkklaa.Pure
open Go.RowKit Go.Proofs.Ytdefgagmgbkklaa.P Go.Proofs.Ytdefgagmgbkklaa.Pre Go.Proofs.YtdefgagmgbkklaaW.PrintWords Go.Proofs.YtdefgagmgbkklaaW.PrintLast

theorem dl_closed : changeforgelaw1_closed.f = some true := by decide +kernel
theorem dl_of {l : List Int} (h : bytesOk l = true) : digest_Of.f l = if 4096 < l.length then some (0, 2, 0) else some (dig l, 0, 0) := by
  unfold digest_Of.f; rw [if_pos h]
theorem dl_beq (l : List Int) (c d : Int) (hc : 0 ≤ c ∧ c ≤ 255) (hd : 0 ≤ d ∧ d ≤ 255) : ((dig (l ++ [c]) == dig (l ++ [d])) == (c == d)) = true := by
  rw [dig_snoc, dig_snoc]
  exact beq_iff_beq ⟨fun h => digStep_last hc.1 hc.2 hd.1 hd.2 h, fun h => by rw [h]⟩

theorem DigestLastByte : changeforgelaw1_DigestLastByte.Pure := by
  intro l c d _ hl2 hl hc hd
  have bl := bytesOk_of_wf hl
  have bc := byte_of_wf hc
  have bd := byte_of_wf hd
  refine ⟨1, ?_⟩
  unfold changeforgelaw1_DigestLastByte.f
  have y1 : ([] : List Int).length + l.length < 140737488355328 := by simp; omega
  have y2 : ([] ++ l : List Int).length < 140737488355328 := by simp; omega
  have e1 : digest_Of.f ([] ++ l ++ [c]) = if 4096 < l.length + 1 then some (0, 2, 0) else some (dig (l ++ [c]), 0, 0) := by
    rw [List.nil_append, dl_of (bytesOk_snoc bl bc)]; simp
  have e2 : digest_Of.f ([] ++ l ++ [d]) = if 4096 < l.length + 1 then some (0, 2, 0) else some (dig (l ++ [d]), 0, 0) := by
    rw [List.nil_append, dl_of (bytesOk_snoc bl bd)]; simp
  simp only [Option.bind_some, if_pos y1, if_pos y2, e1, e2, changeforgelaw1_DigestLastByte.j0, dl_closed]
  have key := dl_beq l c d bc bd
  by_cases c3 : 4096 < l.length + 1
  · simp [c3]
  · rw [if_neg c3, if_neg c3]
    simp only [Option.bind_some, if_true, bne_self_eq_false, Bool.false_eq_true, if_false]
    rw [if_pos key]
end Go.Proofs.Ytdefgagmgbkklaa.Pure
