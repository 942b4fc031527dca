/- Plain lemmas on the lines of a text. No program in sight. -/
import Derived.Test.YtdefgagmgbkklaaPre
set_option linter.unusedVariables false
namespace Go.Proofs.Ytdefgagmgbkklaa.Pre
open Go.RowKit Go.Proofs.YtdefgagmgbkklaaW.PrintWords

/-! ### the lines of a text -/
theorem splitNl_clean (l : List UInt8) : ∀ s ∈ splitNl l, (10 : UInt8) ∉ s := by
  induction l with
  | nil => intro s hs; simp [splitNl] at hs; subst hs; simp
  | cons c r ih =>
    intro s hs
    by_cases h : c = 10
    · rw [splitNl, if_pos h] at hs
      rcases List.mem_cons.1 hs with rfl | hs
      · simp
      · exact ih s hs
    · rw [splitNl_cons_ne r h] at hs
      cases e : splitNl r with
      | nil => rw [e] at hs; simp [onHead] at hs; subst hs; simpa using Ne.symm h
      | cons a t =>
        rw [e] at hs ih
        rcases List.mem_cons.1 hs with rfl | hs
        · have := ih a List.mem_cons_self
          intro hm
          rcases List.mem_append.1 hm with hm | hm
          · simp at hm; exact h hm.symm
          · exact this hm
        · exact ih s (List.mem_cons_of_mem _ hs)
theorem joined_mk_splitNl (l : List UInt8) : joined ((splitNl l).map mkStr) = l ++ [10] := by
  induction l with
  | nil => rfl
  | cons c r ih =>
    by_cases h : c = 10
    · rw [splitNl, if_pos h]
      show ([] : List UInt8) ++ 10 :: joined ((splitNl r).map mkStr) = _
      rw [ih, h]; rfl
    · rw [splitNl_cons_ne r h]
      cases e : splitNl r with
      | nil => exact absurd e (splitNl_ne r)
      | cons a t =>
        rw [e] at ih
        show ([c] ++ a) ++ 10 :: joined (t.map mkStr) = _
        have : a ++ 10 :: joined (t.map mkStr) = r ++ [10] := ih
        rw [List.append_assoc, this]; rfl
theorem joined_lines (l : List UInt8) : joined ((linesOf l).map mkStr) = if l = [] ∨ l.getLast? = some 10 then l else l ++ [10] := by
  have hne := splitNl_ne l
  have hj := joined_mk_splitNl l
  have hd := List.dropLast_concat_getLast hne
  have hcl := splitNl_clean l _ (List.getLast_mem hne)
  unfold linesOf
  generalize hg : (splitNl l).getLast hne = g at *
  have hj2 : joined ((splitNl l).dropLast.map mkStr) ++ g ++ [10] = l ++ [10] := by
    rw [← hj]
    conv => rhs; rw [← hd]
    rw [List.map_append, joined_append]
    simp [joined, toList_mkStr]
  by_cases e : g = []
  · rw [if_pos e]
    subst e
    have h2 : joined ((splitNl l).dropLast.map mkStr) = l := by simpa using hj2
    rw [h2, if_pos]
    rcases List.eq_nil_or_concat ((splitNl l).dropLast.map mkStr) with h3 | ⟨t, b, h3⟩
    · left; rw [← h2, h3]; rfl
    · right; rw [← h2, h3, List.concat_eq_append, joined_append]; simp [joined]
  · rw [if_neg e, hj, if_neg]
    have h2 : joined ((splitNl l).dropLast.map mkStr) ++ g = l := List.append_cancel_right hj2
    rcases List.eq_nil_or_concat g with h3 | ⟨t, b, h3⟩
    · exact absurd h3 e
    · subst h3
      rw [← h2]
      intro h4
      rcases h4 with h4 | h4
      · simp at h4
      · simp at h4
        subst h4
        simp at hcl
theorem noNl_of {s : ByteArray} (h : hasNl s = false) : (10 : UInt8) ∉ s.data.toList := by
  unfold hasNl at h
  intro hm
  have := List.contains_iff_mem.2 hm
  rw [h] at this
  cases this
theorem linesOf_joined (l : List ByteArray) (h : ∀ s ∈ l, isLine s) (b : List UInt8) : (linesOf (joined l ++ b)).map mkStr = l ++ (linesOf b).map mkStr := by
  induction l with
  | nil => rfl
  | cons s r ih =>
    have h1 := (h s List.mem_cons_self).2
    show (linesOf ((s.data.toList ++ 10 :: joined r) ++ b)).map mkStr = _
    rw [List.append_assoc, List.cons_append, linesOf_cut _ _ (noNl_of h1), List.map_cons, ih (fun x hx => h x (List.mem_cons_of_mem _ hx)), mkStr_toList]
    rfl
theorem split_zero {s : ByteArray} (h : (splitSpec s).2.1 = 0) : s.size ≤ 4096 ∧ linesFault (textLines s) = (0, 0) ∧ splitSpec s = (textLines s, 0, 0) := by
  unfold splitSpec at h ⊢
  by_cases c : 4096 < s.size
  · rw [if_pos c] at h; cases h
  · rw [if_neg c] at h ⊢
    rcases linesFault_or (textLines s) with z | z
    · rw [if_pos z]; exact ⟨by omega, z, rfl⟩
    · rw [if_neg (fun e => z (by rw [e]))] at h; exact absurd h z
theorem join_zero {l : List ByteArray} (h : (joinSpec l).2.1 = 0) : linesFault l = (0, 0) ∧ (joined l).length ≤ 4096 ∧ joinSpec l = (mkStr (joined l), 0, 0) := by
  unfold joinSpec at h ⊢
  rcases linesFault_or l with z | z
  · rw [if_pos z] at h ⊢
    by_cases c : 4096 < (joined l).length
    · rw [if_pos c] at h; cases h
    · rw [if_neg c]; exact ⟨z, by omega, rfl⟩
  · rw [if_neg (fun e => z (by rw [e]))] at h; exact absurd h z
end Go.Proofs.Ytdefgagmgbkklaa.Pre
