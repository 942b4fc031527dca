/- Common returns the lengths of the longest common prefix and of the longest common suffix of the rest: for all texts. -/
import Derived.Test.YtdefgagmgbkklaaPC4
import Derived.Test.YtdefgagmgbkklaaCmn
namespace Go.Proofs.Ytdefgagmgbkklaa.Pure
open Go.RowKit Go.Proofs.Ytdefgagmgbkklaa.PC Go.Proofs.Ytdefgagmgbkklaa.Pre Go.Proofs.YtdefgagmgbkklaaW.PrintWords Go.Proofs.YtdefgagmgbkklaaW.PrintLast

theorem lc_first (a b : List ByteArray) {p s : Nat} (h : commonOf a b = (p, s)) (ha : p < a.length) (hb : p < b.length) : ¬ rdOf ByteArray.empty a (p : Int) = rdOf ByteArray.empty b (p : Int) := by
  have e : cpre a b = p := congrArg Prod.fst h
  have h1 := rdOf_drop ByteArray.empty a p ha
  have h2 := rdOf_drop ByteArray.empty b p hb
  rw [← e] at h1 h2
  have := cpre_stop a b _ _ _ _ h1 h2
  rw [e] at this
  exact this
theorem lc_last (a b : List ByteArray) {p s : Nat} (h : commonOf a b = (p, s)) (ha : p + s < a.length) (hb : p + s < b.length) : ¬ rdOf ByteArray.empty a ((a.length - 1 - s : Nat) : Int) = rdOf ByteArray.empty b ((b.length - 1 - s : Nat) : Int) := by
  have e : cpre a b = p := congrArg Prod.fst h
  have f : csuf (a.drop (cpre a b)) (b.drop (cpre a b)) = s := congrArg Prod.snd h
  rw [e] at f
  have f : cpre (a.drop p).reverse (b.drop p).reverse = s := f
  have h1 := rdOf_rev a p s (by omega)
  have h2 := rdOf_rev b p s (by omega)
  rw [← f] at h1 h2
  have := cpre_stop (a.drop p).reverse (b.drop p).reverse _ _ _ _ h1 h2
  rw [f] at this
  exact this
theorem lc_pair : changeforgelaw1_pair.f = some true := by decide +kernel
theorem lc_j3 (k : Nat) (a b : List ByteArray) (ha : a.length ≤ 120) (hb : b.length ≤ 120) {p s : Nat} (h : commonOf a b = (p, s)) (c : Bool) (hc : c = true → p + s < a.length ∧ p + s < b.length) :
    changeforgelaw1_LinesCommonMatchesSpec.j3 (k + 1) a b (s : Int) c = some true := by
  simp only [changeforgelaw1_LinesCommonMatchesSpec.j3, lc_pair, Option.bind_some]
  by_cases e : c = true
  · obtain ⟨h1, h2⟩ := hc e
    have hl := lc_last a b h h1 h2
    rw [if_pos e, w64 (n := (a.length : Int) - s) (by omega) (by omega), w64 (n := (a.length : Int) - s - 1) (by omega) (by omega), w64 (n := (b.length : Int) - s) (by omega) (by omega), w64 (n := (b.length : Int) - s - 1) (by omega) (by omega), if_pos (by omega), if_pos (by omega), if_pos (by omega), if_pos (by omega)]
    rw [show (a.length : Int) - s - 1 = ((a.length - 1 - s : Nat) : Int) by omega, show (b.length : Int) - s - 1 = ((b.length - 1 - s : Nat) : Int) by omega, if_neg (fun x => hl (toList_inj.mp x))]
  · rw [if_neg e]
theorem lc_j2 (k : Nat) (a b : List ByteArray) (ha : a.length ≤ 120) (hb : b.length ≤ 120) {p s : Nat} (h : commonOf a b = (p, s)) (hp : p ≤ 120) (hs : s ≤ 120) :
    changeforgelaw1_LinesCommonMatchesSpec.j2 (k + 2) a b (p : Int) (s : Int) false = some true := by
  simp only [changeforgelaw1_LinesCommonMatchesSpec.j2]
  rw [if_neg (by decide), w64 (n := (p : Int) + s) (by omega) (by omega)]
  by_cases c1 : (p : Int) + s < a.length
  · rw [if_pos c1]
    refine lc_j3 k a b ha hb h _ (fun e => ?_)
    have := of_decide_eq_true e
    omega
  · rw [if_neg c1]
    exact lc_j3 k a b ha hb h _ (fun e => by cases e)
theorem LinesCommonMatchesSpec : changeforgelaw1_LinesCommonMatchesSpec.Pure := by
  intro a b _ _ _ _ _ _
  refine ⟨10, ?_⟩
  unfold changeforgelaw1_LinesCommonMatchesSpec.f
  simp only [lines_Common.f, changeforgeref1_TwoFault.f, Option.bind_some, lc_pair]
  unfold commonSpec
  rcases twoFault_or a b with z | z
  · rw [if_pos z]
    obtain ⟨z1, z2⟩ := twoFault_ok.1 z
    have ha := (linesFault_ok.1 z1).1
    have hb := (linesFault_ok.1 z2).1
    have hle := commonOf_le a b
    obtain ⟨p, s, h⟩ : ∃ p s, commonOf a b = (p, s) := ⟨_, _, rfl⟩
    obtain ⟨e1, e2⟩ := common_parts a b h
    rw [h] at hle ⊢
    simp only [] at hle ⊢
    rw [if_pos (by rw [z]), if_pos trivial, if_neg (by omega), if_neg (by omega), w64 (n := (p : Int) + s) (by omega) (by omega), if_neg (by omega), decide_eq_false (by omega)]
    simp only [changeforgelaw1_LinesCommonMatchesSpec.j0, changeforgeequal_Strings.f, Option.bind_some]
    rw [if_neg (by decide), if_pos (by omega), if_pos (by omega), if_pos (by omega), show ((p : Int)).toNat = p from rfl, if_pos (decide_eq_true e1), w64 (n := (a.length : Int) - s) (by omega) (by omega), w64 (n := (b.length : Int) - s) (by omega) (by omega), if_pos (by omega), if_pos (by omega), if_pos (by omega), if_pos (by omega)]
    rw [show ((a.length : Int) - s).toNat = a.length - s by omega, show ((b.length : Int) - s).toNat = b.length - s by omega, decide_eq_true e2]
    simp only [changeforgelaw1_LinesCommonMatchesSpec.j1, Bool.not_true]
    rw [if_neg (by decide)]
    by_cases c1 : (p : Int) < a.length
    · rw [if_pos c1]
      by_cases c2 : (p : Int) < b.length
      · have hf := lc_first a b h (by omega) (by omega)
        rw [if_pos c2, if_pos (by omega), show ((rdOf ByteArray.empty a (p : Int)).toList == (rdOf ByteArray.empty b (p : Int)).toList) = false by rw [beq_eq_false_iff_ne]; exact fun x => hf (toList_inj.mp x)]
        exact lc_j2 6 a b ha hb h (by omega) (by omega)
      · rw [if_neg c2]
        exact lc_j2 6 a b ha hb h (by omega) (by omega)
    · rw [if_neg c1]
      exact lc_j2 6 a b ha hb h (by omega) (by omega)
  · rw [if_neg z, if_neg (show ¬ twoFault a b = (0, 0) from fun e => z (by rw [e]))]
    simp
end Go.Proofs.Ytdefgagmgbkklaa.Pure
