/- The words of a line: none is empty, and together they are the line. -/
import Derived.Test.YtifkadmljokffaaPW2
namespace Go.Proofs.Ytifkadmljokffaa.Pure
open Go.RowKit Go.Proofs.Ytifkadmljokffaa.PW Go.Proofs.Ytifkadmljokffaa.Pre Go.Proofs.YtifkadmljokffaaW.PrintWords Go.Proofs.YtifkadmljokffaaW.PrintLast

theorem wt_split : changeforgelaw1_split.f = some true := by decide +kernel
theorem wt_loop (s : ByteArray) (hs : s.size ≤ 80) (d : Nat) : ∀ (k i : Nat), i ≤ (words s).length → (words s).length - i = d → d < k → changeforgelaw1_WorddiffTokensJoin.l0 k s (words s) (i : Int) = some true := by
  have hl := words_length s
  have hf : changeforgelaw1_together.f (words s) = some s := by
    unfold changeforgelaw1_together.f
    rw [if_pos ⟨by omega, by rw [flatStr_words]; omega⟩, flatStr_words]
  induction d with
  | zero =>
    intro k i hi hd hk
    obtain ⟨k, rfl⟩ : ∃ m, k = m + 1 := ⟨k - 1, by omega⟩
    simp only [changeforgelaw1_WorddiffTokensJoin.l0]
    rw [if_neg (by omega), hf]
    simp [wt_split]
  | succ d ih =>
    intro k i hi hd hk
    obtain ⟨k, rfl⟩ : ∃ m, k = m + 1 := ⟨k - 1, by omega⟩
    have hn : ¬ (rdOf ByteArray.empty (words s) (i : Int)).toList = [] := by
      rw [rdOf_at _ _ _ (by omega)]
      exact words_ne s _ (List.getElem_mem _)
    simp only [changeforgelaw1_WorddiffTokensJoin.l0]
    rw [if_pos (by omega), if_pos (by omega), if_neg hn, w64 (by omega) (by omega)]
    have := ih k (i + 1) (by omega) (by omega) (by omega)
    rw [Int.natCast_add] at this
    exact this
theorem WorddiffTokensJoin : changeforgelaw1_WorddiffTokensJoin.Pure := by
  intro a0 h0
  by_cases c : (linesFault [a0]).1 = 0
  · have z := linesFault_ok.1 (linesFault_zero c)
    have hs := (z.2 a0 (by simp)).1
    refine ⟨(words a0).length + 1, ?_⟩
    unfold changeforgelaw1_WorddiffTokensJoin.f worddiff_Tokens.f worddiff_split.f
    simp only [lines_Code.f, Option.bind_some, c, if_true]
    rw [if_pos (by omega)]
    exact wt_loop a0 hs (words a0).length _ 0 (by omega) (by omega) (by omega)
  · refine ⟨0, ?_⟩
    unfold changeforgelaw1_WorddiffTokensJoin.f worddiff_Tokens.f
    simp only [lines_Code.f, Option.bind_some]
    rw [if_neg c]
    simp only [Option.bind_some]
    rw [if_neg c]
    simp [wt_split]

end Go.Proofs.Ytifkadmljokffaa.Pure
