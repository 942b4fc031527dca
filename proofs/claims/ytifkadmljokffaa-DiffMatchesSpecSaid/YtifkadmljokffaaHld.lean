/- A region that draws its order: operations that only read (in every world that meets S), then a row of operations one behind the other; the last of them waits for all that read, and may change what they read. -/
import Derived.Test.YtifkadmljokffaaStl
import Derived.OrdersHeld
set_option linter.unusedVariables false
namespace Go.Proofs.Ytifkadmljokffaa.Pre
open Go.RowKit Go.Proofs.YtifkadmljokffaaW.PrintWords

section
variable {P : Program} {ops : Array Oper} {Q : Exit → Act → World → Prop} {md : Region.Mode} {S : World → Prop} {n : Nat}
def wpAnyT (P : Program) (md : Region.Mode) (ops : Array Oper) (Q : Exit → Act → World → Prop) (S : World → Prop) (n : Nat) : Nat → Array Bool → Act → World → Prop
  | 0, listed, a, w => Region.ready md ops listed = [] ∧ Q .normal a w
  | fuel + 1, listed, a, w =>
    (Region.ready md ops listed = [] → Q .normal a w) ∧
    ∀ i ∈ Region.ready md ops listed, wpOp P ops Q i (fun a' w' => (i ≠ n → S w') ∧ wpAnyT P md ops Q S n fuel (listed.setIfInBounds i true) a' w') a w
theorem wpAny_of_T : ∀ (fuel : Nat) (listed : Array Bool) (a : Act) (w : World), wpAnyT P md ops Q S n fuel listed a w → wpAny P md ops Q fuel listed a w
  | 0, _, _, _, h => h
  | fuel + 1, _, _, _, h => ⟨h.1, fun i hi => wpOp_mono (fun a' w' h' => wpAny_of_T fuel _ a' w' h'.2) (h.2 i hi)⟩
theorem wpAnyT_first {i : Nat} {oi : Oper} {v : Value} (hi : ops[i]? = some oi) (hsel : ∀ (j : Nat) (o : Oper) cs b, ops[j]? = some o → o.op ≠ .select cs b)
    (hQ : ∀ c a w d v, Q (.panic c) (a.put d v) w → Q (.panic c) a w) (hin : i ≠ n) (hwait : Region.waitsFor md ops n i = true) :
    ∀ (fuel : Nat) (listed : Array Bool) (a : Act) (w : World),
      (∀ j oj, ops[j]? = some oj → j ≠ i → listed.getD j true = false → (∀ e ∈ oj.after, Region.binds md e = true → e.on ≠ i) → oi.apart ops oj = true) →
      i ∈ Region.ready md ops listed → YieldsIf P ops S oi v a → S w →
      wpAnyT P md ops Q S n fuel (listed.setIfInBounds i true) (a.put oi.dst v) w → wpAnyT P md ops Q S n (fuel + 1) listed a w := by
  intro fuel
  induction fuel with
  | zero =>
    intro listed a w _ hr hy hS H
    refine ⟨fun h => (by rw [h] at hr; cases hr), fun j hj => ?_⟩
    by_cases hji : j = i
    · subst hji; exact hy.wpOp hi hS ⟨fun _ => hS, H⟩
    · have := ready_mono hj hji
      rw [H.1] at this
      cases this
  | succ fuel ih =>
    intro listed a w hfree hr hy hS H
    refine ⟨fun h => (by rw [h] at hr; cases hr), fun j hj => ?_⟩
    by_cases hji : j = i
    · subst hji; exact hy.wpOp hi hS ⟨fun _ => hS, H⟩
    · have h1 := H.2 j (ready_mono hj hji)
      obtain ⟨hjun, oj, hoj, hall⟩ := mem_ready.1 hj
      have hnot : ∀ e ∈ oj.after, Region.binds md e = true → e.on ≠ i := fun e he hb heq => by
        have h1 := hall e he hb
        have h0 := (mem_ready.1 hr).1
        rw [heq] at h1
        rcases Nat.lt_or_ge i listed.size with h' | h'
        · simp [h'] at h0 h1; rw [h0] at h1; cases h1
        · simp [Array.getElem?_eq_none h'] at h1
      have hjn : j ≠ n := fun e => by
        subst e
        obtain ⟨oj', hoj', e, he, hb, hon⟩ := Region.waitsFor_spec hwait
        have : oj' = oj := Option.some.inj (hoj'.symm.trans hoj)
        subst this
        exact hnot e he hb hon
      have h2 := wpOp_putIf hoj (hfree j oj hoj hji hjun hnot) (fun cs b => hsel i oi cs b hi) (fun cs b => hsel j oj cs b hoj) (fun c a w => hQ c a w _ _) hy h1
      have hfree' : ∀ k ok, ops[k]? = some ok → k ≠ i → (listed.setIfInBounds j true).getD k true = false →
          (∀ e ∈ ok.after, Region.binds md e = true → e.on ≠ i) → oi.apart ops ok = true := fun k ok hk hki hun hno => by
        refine hfree k ok hk hki ?_ hno
        by_cases hjk : j = k
        · subst hjk; exact hjun
        · rw [getD_set_ne true hjk] at hun; exact hun
      refine wpOp_mono (fun a' w' h3 => ⟨fun _ => h3.2.1 hjn, ih (listed.setIfInBounds j true) a' w' hfree' (ready_mono hr (Ne.symm hji)) h3.1 (h3.2.1 hjn) ?_⟩) h2
      rw [Array.setIfInBounds_comm _ _ hji]
      exact h3.2.2
/-- What is read, one behind the other. -/
def wpHeld (P : Program) (ops : Array Oper) (S : World → Prop) (K : Act → Prop) : List Oper → Act → Prop
  | [], a => K a
  | o :: rest, a => ∃ v, YieldsIf P ops S o v a ∧ wpHeld P ops S K rest (a.put o.dst v)
/-- What follows, S shown behind each but the last. -/
def wpListS (P : Program) (ops : Array Oper) (Q : Exit → Act → World → Prop) (S : World → Prop) : List Oper → Act → World → Prop
  | [], a, w => Q .normal a w
  | o :: rest, a, w => if Region.wanted o (yielded ops a.tmps) then o.wp P a w (fun a' w' => (rest ≠ [] → S w') ∧ wpListS P ops Q S rest a' w') Q ∨ (o.asks P a w ∧ LetsOut Q)
      else (rest ≠ [] → S w) ∧ wpListS P ops Q S rest (a.put o.dst undef) w
theorem wpAnyT_of_seq : ∀ (l : List Oper) (k : Nat) (listed : Array Bool) (a : Act) (w : World), (∀ j, l[j]? = ops[k + j]?) → k + l.length = n + 1 →
    Region.seqB md ops l.length k listed = true → wpListS P ops Q S l a w → wpAnyT P md ops Q S n l.length listed a w
  | [], _, _, _, _, _, _, hB, h => ⟨by simpa [Region.seqB] using hB, h⟩
  | o :: l, k, listed, a, w, hl, hk, hB, h => by
    have h0 : ops[k]? = some o := by simpa using (hl 0).symm
    simp only [List.length_cons, Region.seqB, Bool.and_eq_true, decide_eq_true_eq] at hB
    simp only [List.length_cons] at hk
    refine ⟨fun h1 => (by rw [hB.1] at h1; cases h1), fun i hi => ?_⟩
    rw [hB.1] at hi
    have hik : i = k := by simpa using hi
    subst hik
    have hS : ∀ w', (l ≠ [] → S w') → (i ≠ n → S w') := fun w' hs hne => hs (fun e => by subst e; simp at hk; omega)
    have hw : wpOp P ops Q i (fun a' w' => (l ≠ [] → S w') ∧ wpListS P ops Q S l a' w') a w := by unfold wpOp; simp only [h0]; exact h
    exact wpOp_mono (fun a' w' h' => ⟨hS w' h'.1, wpAnyT_of_seq l (i + 1) _ a' w' (fun j => by have := hl (j + 1); simpa [Nat.add_assoc, Nat.add_comm 1 j] using this) (by omega) hB.2 h'.2⟩) hw
theorem wpAnyT_lex {g : Nat} {w : World} {tail : List Oper} (hsel : Region.noSelect ops = true) (hQ : ∀ c a w d v, Q (.panic c) (a.put d v) w → Q (.panic c) a w) (hS : S w) (ht : tail.length = g) (hg : 0 < g) (N : Nat) (hN : N + g = n + 1)
    (htl : ∀ j, tail[j]? = ops[N + j]?) (hwait : ∀ i, i < N → Region.waitsFor md ops n i = true) :
    ∀ (l : List Oper) (k : Nat) (listed : Array Bool) (a : Act), (∀ j, j < l.length → l[j]? = ops[k + j]?) → k + l.length = N →
    Region.lexHead md ops g l.length k listed = true → wpHeld P ops S (fun a' => wpListS P ops Q S tail a' w) l a → wpAnyT P md ops Q S n (l.length + g) listed a w
  | [], k, listed, a, _, hk, hB, h => by
    have : k = N := by simpa using hk
    subst this
    simp only [List.length_nil, Region.lexHead] at hB
    have := wpAnyT_of_seq (P := P) (Q := Q) (S := S) (n := n) tail k listed a w htl (by omega) (by rw [ht]; exact hB) h
    rw [ht] at this
    simpa using this
  | o :: l, k, listed, a, hl, hk, hB, h => by
    have h0 : ops[k]? = some o := by simpa using (hl 0 (by simp)).symm
    simp only [List.length_cons, Region.lexHead, Bool.and_eq_true] at hB hk
    obtain ⟨⟨hr, hf⟩, hB'⟩ := hB
    obtain ⟨v, hy, hK⟩ := h
    have hr' : k ∈ Region.ready md ops listed := by simpa using hr
    have := wpAnyT_first h0 (Region.noSelect_spec hsel) hQ (by omega) (hwait k (by omega)) (l.length + g) listed a w (Region.free_spec h0 hf) hr' hy hS
      (wpAnyT_lex hsel hQ hS ht hg N hN htl hwait l (k + 1) _ _ (fun j hj => by have := hl (j + 1) (by simp; omega); simpa [Nat.add_assoc, Nat.add_comm 1 j] using this) (by omega) hB' hK)
    simpa [Nat.add_right_comm] using this
def heldB (ops : Array Oper) (N : Nat) : Bool :=
  Region.noSelect ops && decide (N < ops.size) && (List.range N).all (fun i => Region.waitsFor .any ops (ops.size - 1) i) && Region.lexHead .any ops (ops.size - N) N 0 (Array.replicate ops.size false)
theorem held_tail_drew {id : Nat} {a : Act} {w : World} {l : List Oper} (S : World → Prop) (N : Nat) (hm : P.follows .mixedOrders = true) (hB : heldB l.toArray N = true)
    (hQ : ∀ c a w d v, Q (.panic c) (a.put d v) w → Q (.panic c) a w) (hS : S w.drew)
    (h : ∀ wd, w.drew = wd → wpHeld P l.toArray S (fun a' => wpListS P l.toArray Q S (l.drop N) a' wd) (l.take N) a) : (Code.region id l.toArray true).wp P Q a w := by
  simp only [heldB, Bool.and_eq_true, decide_eq_true_eq, List.all_eq_true, List.mem_range] at hB
  obtain ⟨⟨⟨hsel, hn⟩, hw⟩, hlex⟩ := hB
  have hn' : N < l.length := by simpa using hn
  have htl : (l.take N).length = N := by simp; omega
  have hdl : (l.drop N).length = l.toArray.size - N := by simp
  refine wp_region_any hm ?_
  have := wpAnyT_lex (P := P) (md := .any) (Q := Q) (S := S) (n := l.toArray.size - 1) (g := l.toArray.size - N) (w := w.drew) (tail := l.drop N) hsel hQ hS hdl (by omega) N (by omega) (fun j => by simp [List.getElem?_drop]) hw (l.take N) 0 _ a (fun j hj => by
    have hj' : j < N := by rw [htl] at hj; exact hj
    simp [hj']) (by simpa using htl) (by rw [htl]; exact hlex) (h _ rfl)
  rw [htl, show N + (l.toArray.size - N) = l.toArray.size by omega] at this
  exact wpAny_of_T _ _ _ _ this
theorem held_nil {K : Act → Prop} {a : Act} (h : K a) : wpHeld P ops S K [] a := h
theorem held_yes {K : Act → Prop} {a : Act} {o : Oper} {rest : List Oper} (v : Value) (hw : Region.wanted o (yielded ops a.tmps) = true) (hr : ∀ W, S W → (execOp a.eval o).run P W = .ok (.value v) W) (h : wpHeld P ops S K rest (a.put o.dst v)) : wpHeld P ops S K (o :: rest) a := ⟨v, .inl ⟨hw, hr⟩, h⟩
theorem held_no {K : Act → Prop} {a : Act} {o : Oper} {rest : List Oper} (hw : Region.wanted o (yielded ops a.tmps) = false) (h : wpHeld P ops S K rest (a.put o.dst undef)) : wpHeld P ops S K (o :: rest) a := ⟨undef, .inr ⟨hw, rfl⟩, h⟩
/-- The exit behind one operation of the row. -/
def thenS (P : Program) (ops : Array Oper) (Q : Exit → Act → World → Prop) (S : World → Prop) (rest : List Oper) : Exit → Act → World → Prop
  | .normal, a, w => (rest ≠ [] → S w) ∧ wpListS P ops Q S rest a w
  | e, a, w => Q e a w
theorem thenS_intro {a : Act} {w : World} {rest : List Oper} (hS : rest ≠ [] → S w) (h : wpListS P ops Q S rest a w) : thenS P ops Q S rest .normal a w := ⟨hS, h⟩
theorem listS_nil {a : Act} {w : World} (h : Q .normal a w) : wpListS P ops Q S [] a w := h
theorem listS_step {a : Act} {w : World} {o : Oper} {rest : List Oper} (h : wpList P ops (thenS P ops Q S rest) [o] a w) : wpListS P ops Q S (o :: rest) a w := by
  unfold wpListS
  unfold wpList at h
  split
  · rename_i hw
    rw [if_pos hw] at h
    rcases h with h | ⟨h1, h2⟩
    · left
      unfold Oper.wp at *
      generalize (execOp a.eval o).run P w = r at *
      cases r with
      | ok m w' =>
        cases m <;> simp only [Oper.upon] at h ⊢
        case enter f args => exact Calls.mono h (fun e w'' he => by cases e <;> first | exact he | (obtain ⟨x, y, z⟩ := he; exact ⟨x, y, z⟩))
        case row row args => exact Rows.mono h (fun _ _ he => he)
        all_goals exact h
      | halt x w' => cases x <;> simp only [Oper.upon] at h ⊢ <;> exact h
    · obtain ⟨x, y, z⟩ := h2; exact .inr ⟨h1, x, y, z⟩
  · rename_i hw
    rw [if_neg hw] at h
    exact h
end
end Go.Proofs.Ytifkadmljokffaa.Pre
