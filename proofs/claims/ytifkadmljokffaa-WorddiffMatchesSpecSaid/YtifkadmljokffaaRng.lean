/- Marked ranges byte by byte, plainly. No program in sight. -/
import Derived.Test.YtifkadmljokffaaRst
set_option linter.unusedVariables false
namespace Go.Proofs.Ytifkadmljokffaa.Pre
open Go.RowKit Go.Proofs.YtifkadmljokffaaW.PrintWords Go.Proofs.YtifkadmljokffaaW.PrintMore
def markB : List Bool → Int × List Pr → Int × List Pr
  | [], st => st
  | m :: r, st => markB r (markStep st 1 m)
theorem markB_app (a b : List Bool) : ∀ st, markB (a ++ b) st = markB b (markB a st) := by
  induction a with
  | nil => intro st; rfl
  | cons x a ih => intro st; exact ih _
theorem getD_append_last (zs : List Pr) (z d : Pr) : (zs ++ [z]).getD ((zs ++ [z]).length - 1) d = z := by
  rw [List.getD_eq_getElem?_getD]
  simp
theorem set_append_last (zs : List Pr) (z y : Pr) : (zs ++ [z]).set ((zs ++ [z]).length - 1) y = zs ++ [y] := by
  rw [List.length_append, List.length_singleton, Nat.add_sub_cancel, List.set_append_right _ _ (Nat.le_refl _), Nat.sub_self]
  rfl
theorem getD_set_last (zs : List Pr) (y d : Pr) (h : 0 < zs.length) : (zs.set (zs.length - 1) y).getD ((zs.set (zs.length - 1) y).length - 1) d = y := by
  rw [List.getD_eq_getElem?_getD, List.length_set, List.getElem?_set_self (by omega)]
  rfl
/-- What a marked step leaves ends where it stands. -/
theorem step_true (st : Int × List Pr) (n : Int) : 0 < (markStep st n true).2.length ∧ ((markStep st n true).2.getD ((markStep st n true).2.length - 1) (0, 0)).2 = (markStep st n true).1 := by
  unfold markStep
  simp only [if_true]
  split
  · rename_i c
    refine ⟨by rw [List.length_set]; exact c.1, ?_⟩
    rw [getD_set_last _ _ _ c.1]
  · refine ⟨by simp, ?_⟩
    rw [getD_append_last]
theorem step_more (st : Int × List Pr) (a b : Int) (m : Bool) : markStep (markStep st a m) b m = markStep st (a + b) m := by
  cases m with
  | false =>
    unfold markStep
    simp only [Int.add_assoc]
    rfl
  | true =>
    have h := step_true st a
    have e1 : (markStep (markStep st a true) b true).2 = (markStep st a true).2.set ((markStep st a true).2.length - 1) (((markStep st a true).2.getD ((markStep st a true).2.length - 1) (0, 0)).1, (markStep st a true).1 + b) := by
      generalize markStep st a true = q at *
      unfold markStep
      simp only [if_true]
      rw [if_pos h]
    have e2 : (markStep st a true).1 = st.1 + a := rfl
    refine Prod.ext (by show st.1 + a + b = st.1 + (a + b); omega) ?_
    rw [e1, e2, Int.add_assoc]
    unfold markStep
    simp only [if_true]
    by_cases c : 0 < st.2.length ∧ (st.2.getD (st.2.length - 1) (0, 0)).2 = st.1
    · rw [if_pos c, if_pos c, getD_set_last _ _ _ c.1, List.length_set, List.set_set]
    · rw [if_neg c, if_neg c, getD_append_last, set_append_last]
theorem markB_rep (n : Nat) (m : Bool) : ∀ st, markB (List.replicate (n + 1) m) st = markStep st ((n : Int) + 1) m := by
  induction n with
  | zero => intro st; rfl
  | succ n ih =>
    intro st
    show markB (List.replicate (n + 1) m) (markStep st 1 m) = _
    rw [ih, step_more, show (1 : Int) + ((n : Int) + 1) = ((n + 1 : Nat) : Int) + 1 by omega]
/-- The bytes of one side of an alignment, and whether they are marked. -/
def flagsOf (sd : Int) : List (Int × ByteArray) → List Bool
  | [] => []
  | (k, s) :: r => (if k = 0 then List.replicate s.size false else if k = sd then List.replicate s.size true else []) ++ flagsOf sd r
theorem flags_run (sd : Int) (l : List (Int × ByteArray)) : ∀ st, (∀ x ∈ l, 0 < x.2.size) → markB (flagsOf sd l) st = markRun sd l st := by
  induction l with
  | nil => intro st _; rfl
  | cons x r ih =>
    intro st h
    obtain ⟨k, s⟩ := x
    have hs : 0 < s.size := h (k, s) (List.mem_cons_self ..)
    obtain ⟨n, hn⟩ : ∃ n, s.size = n + 1 := ⟨s.size - 1, by omega⟩
    rw [flagsOf, markB_app, ih _ (fun x hx => h x (List.mem_cons_of_mem _ hx)), markRun]
    congr 1
    by_cases c0 : k = 0
    · rw [if_pos c0, if_pos c0, hn, markB_rep]
      rfl
    · rw [if_neg c0, if_neg c0]
      by_cases c1 : k = sd
      · rw [if_pos c1, if_pos c1, hn, markB_rep]
        rfl
      · rw [if_neg c1, if_neg c1]
        rfl
theorem al_mem (n : Nat) : ∀ (a b : List ByteArray), a.length + b.length = n → ∀ x ∈ al a b, (x.1 = 0 ∨ x.1 = 1 ∨ x.1 = 2) ∧ (x.2 ∈ a ∨ x.2 ∈ b) := by
  induction n using Nat.strongRecOn with
  | _ n ih =>
    intro a b hn x hx
    cases a with
    | nil =>
      cases b with
      | nil => rw [al_nil] at hx; cases hx
      | cons y b =>
        rw [al_ins] at hx
        rcases List.mem_cons.1 hx with rfl | hx
        · exact ⟨.inr (.inr rfl), .inr (List.mem_cons_self ..)⟩
        · obtain ⟨i1, i2⟩ := ih _ (by rw [← hn]; simp) [] b rfl x hx
          exact ⟨i1, i2.imp id (List.mem_cons_of_mem _)⟩
    | cons u a =>
      cases b with
      | nil =>
        rw [al_del] at hx
        rcases List.mem_cons.1 hx with rfl | hx
        · exact ⟨.inr (.inl rfl), .inl (List.mem_cons_self ..)⟩
        · obtain ⟨i1, i2⟩ := ih _ (by rw [← hn]; simp) a [] rfl x hx
          exact ⟨i1, i2.imp (List.mem_cons_of_mem _) id⟩
      | cons y b =>
        by_cases e : u = y
        · subst e
          rw [al_eq] at hx
          rcases List.mem_cons.1 hx with rfl | hx
          · exact ⟨.inl rfl, .inl (List.mem_cons_self ..)⟩
          · obtain ⟨i1, i2⟩ := ih (a.length + b.length) (by rw [← hn, List.length_cons, List.length_cons]; omega) a b rfl x hx
            exact ⟨i1, i2.imp (List.mem_cons_of_mem _) (List.mem_cons_of_mem _)⟩
        · rw [al_ne e] at hx
          split at hx
          · rcases List.mem_cons.1 hx with rfl | hx
            · exact ⟨.inr (.inl rfl), .inl (List.mem_cons_self ..)⟩
            · obtain ⟨i1, i2⟩ := ih (a.length + (y :: b).length) (by rw [← hn, List.length_cons, List.length_cons]; omega) a (y :: b) rfl x hx
              exact ⟨i1, i2.imp (List.mem_cons_of_mem _) id⟩
          · rcases List.mem_cons.1 hx with rfl | hx
            · exact ⟨.inr (.inr rfl), .inr (List.mem_cons_self ..)⟩
            · obtain ⟨i1, i2⟩ := ih ((u :: a).length + b.length) (by rw [← hn, List.length_cons, List.length_cons]; omega) (u :: a) b rfl x hx
              exact ⟨i1, i2.imp id (List.mem_cons_of_mem _)⟩
end Go.Proofs.Ytifkadmljokffaa.Pre
