/- The digest of a sequence that is extended by a byte depends only on the digest of the sequence and the byte: for all sequences and bytes. -/
import Derived.Test.YtdefgagmgbkklaaP3
namespace Go.Proofs.Ytdefgagmgbkklaa.Pure
open Go.RowKit Go.Proofs.Ytdefgagmgbkklaa.P Go.Proofs.Ytdefgagmgbkklaa.Pre Go.Proofs.YtdefgagmgbkklaaW.PrintWords Go.Proofs.YtdefgagmgbkklaaW.PrintLast

theorem dx_closed : changeforgelaw1_closed.f = some true := by decide +kernel
theorem dx_of {l : List Int} (h : bytesOk l = true) : digest_Of.f l = if 4096 < l.length then some (0, 2, 0) else some (dig l, 0, 0) := by
  unfold digest_Of.f; rw [if_pos h]
theorem dx_beq (l o : List Int) (c : Int) : ((dig l == dig o) == (dig (l ++ [c]) == dig (o ++ [c]))) = true := by
  rw [dig_snoc, dig_snoc]
  exact beq_iff_beq ⟨fun h => by rw [h], fun h => digStep_inj (dig_range l).1 (dig_range l).2 (dig_range o).1 (dig_range o).2 h⟩

theorem DigestExtends : changeforgelaw1_DigestExtends.Pure := by
  intro l o c _ hl2 hl _ ho2 ho hc
  have bl := bytesOk_of_wf hl
  have bo := bytesOk_of_wf ho
  have bc := byte_of_wf hc
  refine ⟨1, ?_⟩
  unfold changeforgelaw1_DigestExtends.f
  rw [dx_of bl, dx_of bo]
  have y1 : ([] : List Int).length + l.length < 140737488355328 := by simp; omega
  have y2 : ([] ++ l : List Int).length < 140737488355328 := by simp; omega
  have y3 : ([] : List Int).length + o.length < 140737488355328 := by simp; omega
  have y4 : ([] ++ o : List Int).length < 140737488355328 := by simp; omega
  have e1 : digest_Of.f ([] ++ l ++ [c]) = if 4096 < l.length + 1 then some (0, 2, 0) else some (dig (l ++ [c]), 0, 0) := by
    rw [List.nil_append, dx_of (bytesOk_snoc bl bc)]; simp
  have e2 : digest_Of.f ([] ++ o ++ [c]) = if 4096 < o.length + 1 then some (0, 2, 0) else some (dig (o ++ [c]), 0, 0) := by
    rw [List.nil_append, dx_of (bytesOk_snoc bo bc)]; simp
  simp only [Option.bind_some, if_pos y1, if_pos y2, if_pos y3, if_pos y4, e1, e2, changeforgelaw1_DigestExtends.j0, dx_closed]
  have key := dx_beq l o c
  generalize dig (l ++ [c]) = x at *
  generalize dig (o ++ [c]) = y at *
  by_cases c3 : 4096 < l.length + 1
  · by_cases c1 : 4096 < l.length <;> by_cases c2 : 4096 < o.length <;> by_cases c4 : 4096 < o.length + 1 <;> simp [c1, c2, c3, c4]
  · rw [if_neg (show ¬ 4096 < l.length by omega), if_neg c3]
    by_cases c4 : 4096 < o.length + 1
    · by_cases c2 : 4096 < o.length <;> simp [c2, c4]
    · rw [if_neg (show ¬ 4096 < o.length by omega), if_neg c4]
      simp only [Option.bind_some, if_true, bne_self_eq_false, Bool.false_eq_true, if_false]
      rw [if_pos key]
end Go.Proofs.Ytdefgagmgbkklaa.Pure
