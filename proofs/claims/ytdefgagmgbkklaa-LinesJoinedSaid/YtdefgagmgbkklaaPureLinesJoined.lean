/- A text that is split and joined again is the text, with a newline at its end: for all texts. -/
import Derived.Test.YtdefgagmgbkklaaPL6
import Derived.Test.YtdefgagmgbkklaaLns
namespace Go.Proofs.Ytdefgagmgbkklaa.Pure
open Go.RowKit Go.Proofs.Ytdefgagmgbkklaa.PL Go.Proofs.Ytdefgagmgbkklaa.Pre Go.Proofs.YtdefgagmgbkklaaW.PrintWords Go.Proofs.YtdefgagmgbkklaaW.PrintLast

theorem lj_pair : changeforgelaw1_pair.f = some true := by decide +kernel
theorem lj_j1 (x : ByteArray) (ls : List ByteArray) (z : linesFault ls = (0, 0)) (hx : joined ls = x.data.toList) : ∀ k, changeforgelaw1_LinesJoined.j1 (k + 1) x (joinSpec ls).1 (joinSpec ls).2.1 (joinSpec ls).2.2 = some true := by
  intro k
  have hsz : x.size = (joined ls).length := by rw [Lib.size_eq, hx]
  by_cases c : (x.size : Int) > 4096
  · have ej : joinSpec ls = (mkStr [], 10, -1) := by unfold joinSpec; rw [if_pos z, if_pos (by omega)]
    simp only [changeforgelaw1_LinesJoined.j1, ej]
    rw [if_pos c]
    simp [changeforgeref1_At.f, lj_pair]
  · have ej : joinSpec ls = (x, 0, 0) := by unfold joinSpec; rw [if_pos z, if_neg (by omega), hx, mkStr_toList]
    simp only [changeforgelaw1_LinesJoined.j1, ej]
    rw [if_neg c]
    simp [lj_pair]
theorem LinesJoined : changeforgelaw1_LinesJoined.Pure := by
  intro a0 hsz
  refine ⟨2, ?_⟩
  unfold changeforgelaw1_LinesJoined.f
  simp only [lines_Join.f, lines_Split.f, lj_pair, Option.bind_some]
  by_cases c : (splitSpec a0).2.1 = 0
  · obtain ⟨hl, z, e⟩ := split_zero c
    rw [if_pos c, e]
    have hJ : joined (textLines a0) = if a0.data.toList = [] ∨ a0.data.toList.getLast? = some 10 then a0.data.toList else a0.data.toList ++ [10] := joined_lines _
    by_cases c0 : a0.toList = ([] : List UInt8)
    · rw [if_pos c0]
      simp only [changeforgelaw1_LinesJoined.j0]
      rw [if_neg (by decide)]
      refine lj_j1 a0 _ z ?_ 0
      rw [hJ, if_pos (.inl (by rwa [← ByteArray.toList_eq]))]
    · rw [if_neg c0]
      have hp : 0 < a0.size := Nat.pos_of_ne_zero (fun h => c0 (toList_nil.2 h))
      have hw : wrap64 ((a0.size : Int) - 1) = ((a0.size - 1 : Nat) : Int) := by rw [w64 (by omega) (by omega)]; omega
      rw [hw, if_pos (by omega), if_pos (by omega)]
      have hlen : a0.data.toList.length = a0.size := (Lib.size_eq a0).symm
      have hlast : a0.data.toList.getLast? = some (a0.data.toList[a0.size - 1]'(by omega)) := by
        rw [List.getLast?_eq_getElem?]; simp only [hlen]; exact List.getElem?_eq_getElem _
      have hbt := bt_at' a0 (a0.size - 1) (by omega)
      have hne : ¬ a0.data.toList = [] := fun h => c0 (by rw [ByteArray.toList_eq]; exact h)
      simp only [changeforgelaw1_LinesJoined.j0]
      by_cases c1 : a0.data.toList[a0.size - 1]'(by omega) = 10
      · rw [hbt, c1, if_neg (by decide)]
        refine lj_j1 a0 _ z ?_ 0
        rw [hJ, if_pos (.inr (by rw [hlast, c1]))]
      · have c2 : ((bt a0 ((a0.size - 1 : Nat) : Int)) != 10) = true := by
          rw [hbt, bne_iff_ne]
          intro h
          apply c1
          rw [← UInt8.toNat_inj]
          have : ((10 : UInt8).toNat : Int) = 10 := rfl
          omega
        rw [if_pos c2, if_pos (by omega)]
        refine lj_j1 (a0 ++ ⟨#[10]⟩) _ z ?_ 0
        rw [hJ, if_neg (by rintro (h | h); exact hne h; rw [hlast] at h; exact c1 (Option.some.inj h))]
        simp [ByteArray.data_append]
  · rw [if_neg c]

end Go.Proofs.Ytdefgagmgbkklaa.Pure
