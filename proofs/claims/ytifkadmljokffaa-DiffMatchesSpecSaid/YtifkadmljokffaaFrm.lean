/- A world in which some blocks may have changed, the others not. -/
import Derived.Test.YtifkadmljokffaaAls
import Derived.Test.YtifkadmljokffaaTbl
set_option linter.unusedVariables false
namespace Go.Proofs.Ytifkadmljokffaa.Pre
open Go.RowKit Go.Proofs.YtifkadmljokffaaW.PrintWords Go.Proofs.YtifkadmljokffaaW.PrintMore

structure Fr (M : Nat → Prop) (w w' : World) : Prop where
  os : w'.os = w.os
  tape : w'.tape = w.tape
  output : w'.output = w.output
  size : w.heap.size ≤ w'.heap.size
  block : ∀ k, k < w.heap.size → ¬ M k → w'.heap[k]? = w.heap[k]?
section
variable {M M' : Nat → Prop} {a b c w w' w0 : World} {B : Nat}
theorem Fr.refl (M : Nat → Prop) (w : World) : Fr M w w := ⟨rfl, rfl, rfl, Nat.le_refl _, fun _ _ _ => rfl⟩
theorem Fr.of_below (h : Below w.heap.size w w') : Fr M w w' := ⟨h.os, h.tape, h.output, h.size, fun k hk _ => h.block k hk⟩
theorem Fr.trans (h : Fr M a b) (k : Fr M' b c) (hM : ∀ i, M' i → M i ∨ a.heap.size ≤ i) : Fr M a c :=
  ⟨k.os.trans h.os, k.tape.trans h.tape, k.output.trans h.output, Nat.le_trans h.size k.size, fun i hi hn => (k.block i (Nat.lt_of_lt_of_le hi h.size) (fun hm => (hM i hm).elim hn (fun h2 => by omega))).trans (h.block i hi hn)⟩
theorem Fr.mono (h : Fr M a b) (hM : ∀ i, M i → M' i) : Fr M' a b := ⟨h.os, h.tape, h.output, h.size, fun i hi hn => h.block i hi (fun hm => hn (hM i hm))⟩
theorem Fr.below (h0 : Below B w0 w) (h : Fr M w w') (hM : ∀ k, M k → B ≤ k) (hB : B ≤ w.heap.size) : Below B w0 w' :=
  ⟨h.os.trans h0.os, h.tape.trans h0.tape, h.output.trans h0.output, Nat.le_trans h0.size h.size, fun k hk => (h.block k (by omega) (fun hm => by have := hM k hm; omega)).trans (h0.block k hk)⟩
theorem Fr.setCell (h : Fr M a w) (p : Addr) (hp : M p.block ∨ a.heap.size ≤ p.block) (u : Value) : Fr M a (w.setCell p u) :=
  ⟨h.os, h.tape, h.output, by have := h.size; simpa [World.setCell] using this, fun k hk hn => (Below.heap_setCell w p u k (fun e => by subst e; rcases hp with hp | hp; exact hn hp; omega)).trans (h.block k hk hn)⟩
theorem Fr.then_below (h : Fr M a w) (hb : Below w.heap.size w w') : Fr M a w' := h.trans (M' := fun _ => False) (Fr.of_below hb) (fun _ h => h.elim)
end
theorem tab_fr {α : Type} {d : Kd α} {e B : Nat} {wo wd W' : World} {Mc M' : Nat → Prop} {t : Value} {xs : List α} (HS : Kd.S d e wo B (fun k => ¬ Mc k) t xs) (hb : Below wo.heap.size wo wd) (hF : Fr Mc wd W') (hM : ∀ k, M' k → Mc k ∨ wo.heap.size ≤ k) :
    Kd.S d e W' B (fun k => ¬ M' k) t xs := by
  have h1 := Kd.S_bound HS
  have h2 := Kd.S_step h1 (w1 := wd) (fun k hk hlt => hb.block k hlt)
  have h3 := Kd.S_step h2 (w1 := W') (fun k hk hlt => hF.block k hlt hk.1)
  exact Kd.S_mono h3 (fun k hk hm => (hM k hm).elim hk.1 (fun h => by have := hk.2.2.1; omega))
theorem Fr.steps {M Mc : Nat → Prop} {W wo wd W' : World} (h : Fr M W wo) (hb : Below wo.heap.size wo wd) (hF : Fr Mc wd W') (hMc : ∀ k, Mc k → M k ∨ W.heap.size ≤ k) : Fr M W W' := (h.then_below hb).trans hF hMc
theorem keep_next {l0 l1 : List ByteArray} {p q : Nat} (h : calm (l0.drop p) (l1.drop q) = true) (ho : p < l0.length ∨ q < l1.length) :
    p < l0.length ∧ q < l1.length ∧ ∀ s : Int, ev (p : Int) s [] [] (al (l0.drop p) (l1.drop q)) = .inl (p : Int) :: ev ((p + 1 : Nat) : Int) ((p + 1 : Nat) : Int) [] [] (al (l0.drop (p + 1)) (l1.drop (q + 1))) := by
  by_cases hp : p < l0.length
  · have h0 := rdOf_drop ByteArray.empty l0 p hp
    rw [h0] at h
    by_cases hq : q < l1.length
    · have h1 := rdOf_drop ByteArray.empty l1 q hq
      rw [h1] at h
      have e : rdOf ByteArray.empty l0 (p : Int) = rdOf ByteArray.empty l1 (q : Int) := by simpa [calm] using h
      refine ⟨hp, hq, fun s => ?_⟩
      rw [h0, h1, e, al_eq, ev_keep, flushH_nil, List.nil_append, Int.natCast_add]
      rfl
    · rw [List.drop_of_length_le (show l1.length ≤ q by omega)] at h
      simp [calm] at h
  · rw [List.drop_of_length_le (show l0.length ≤ p by omega)] at h
    have hq : q < l1.length := by omega
    rw [rdOf_drop ByteArray.empty l1 q hq] at h
    simp [calm] at h
/-- Whether the next change is a deletion. -/
def isDel (l0 l1 : List ByteArray) (p q : Nat) : Bool := decide (q = l1.length) || (decide (p < l0.length) && decide (lcsAt l0 l1 p (q + 1) ≤ lcsAt l0 l1 (p + 1) q))
theorem change_next {l0 l1 : List ByteArray} {p q : Nat} (h : calm (l0.drop p) (l1.drop q) = false) (hp : p ≤ l0.length) (hq : q ≤ l1.length) :
    (isDel l0 l1 p q = true → p < l0.length ∧ ∀ (s : Int) (o n : List ByteArray), ev (p : Int) s o n (al (l0.drop p) (l1.drop q)) = ev ((p + 1 : Nat) : Int) s (o ++ [rdOf ByteArray.empty l0 (p : Int)]) n (al (l0.drop (p + 1)) (l1.drop q))) ∧
    (isDel l0 l1 p q = false → q < l1.length ∧ ∀ (s : Int) (o n : List ByteArray), ev (p : Int) s o n (al (l0.drop p) (l1.drop q)) = ev (p : Int) s o (n ++ [rdOf ByteArray.empty l1 (q : Int)]) (al (l0.drop p) (l1.drop (q + 1)))) := by
  by_cases hp' : p < l0.length
  · have h0 := rdOf_drop ByteArray.empty l0 p hp'
    by_cases hq' : q < l1.length
    · have h1 := rdOf_drop ByteArray.empty l1 q hq'
      rw [h0, h1] at h
      have hne : ¬ rdOf ByteArray.empty l0 (p : Int) = rdOf ByteArray.empty l1 (q : Int) := by simpa [calm] using h
      have e1 : lcs (rdOf ByteArray.empty l0 (p : Int) :: l0.drop (p + 1)) (l1.drop (q + 1)) = (lcsAt l0 l1 p (q + 1)).toNat := by unfold lcsAt; rw [← h0]; simp
      have e2 : lcs (l0.drop (p + 1)) (rdOf ByteArray.empty l1 (q : Int) :: l1.drop (q + 1)) = (lcsAt l0 l1 (p + 1) q).toNat := by unfold lcsAt; rw [← h1]; simp
      have r1 := (lcsAt_range l0 l1 p (q + 1)).1
      have r2 := (lcsAt_range l0 l1 (p + 1) q).1
      refine ⟨fun hd => ⟨hp', fun s o n => ?_⟩, fun hd => ⟨hq', fun s o n => ?_⟩⟩
      · have hd' : lcsAt l0 l1 p (q + 1) ≤ lcsAt l0 l1 (p + 1) q := by
          simp only [isDel, Bool.or_eq_true, Bool.and_eq_true, decide_eq_true_eq] at hd
          rcases hd with hd | hd
          · omega
          · exact hd.2
        conv => lhs; rw [h0, h1, al_ne hne, if_pos (by rw [e1, e2]; omega), ev_del]
        rw [← h1, Int.natCast_add]
        rfl
      · have hd' : ¬ lcsAt l0 l1 p (q + 1) ≤ lcsAt l0 l1 (p + 1) q := by
          intro hle
          simp [isDel, hp', hle] at hd
        conv => lhs; rw [h0, h1, al_ne hne, if_neg (by rw [e1, e2]; omega), ev_ins]
        rw [← h0]
    · refine ⟨fun _ => ⟨hp', fun s o n => ?_⟩, fun hd => ?_⟩
      · rw [h0, List.drop_of_length_le (show l1.length ≤ q by omega), al_del, ev_del, Int.natCast_add]
        rfl
      · have : q = l1.length := by omega
        simp [isDel, this] at hd
  · have hq' : q < l1.length := by
      by_cases c : q < l1.length
      · exact c
      · rw [List.drop_of_length_le (show l0.length ≤ p by omega), List.drop_of_length_le (show l1.length ≤ q by omega)] at h
        simp [calm] at h
    have h1 := rdOf_drop ByteArray.empty l1 q hq'
    refine ⟨fun hd => ?_, fun _ => ⟨hq', fun s o n => ?_⟩⟩
    · have : ¬ q = l1.length := by omega
      simp [isDel, this, hp'] at hd
    · rw [h1, List.drop_of_length_le (show l0.length ≤ p by omega), al_ins, ev_ins]
theorem blk_cells3 {W : World} {b T : Nat} {x y z : Value} (h : W.heap[b]? = some (.cells #[x, y, z] T (0, 0))) : W.cell? ⟨b, 0, none⟩ = some x ∧ W.cell? ⟨b, 1, none⟩ = some y ∧ W.cell? ⟨b, 2, none⟩ = some z := by
  refine ⟨?_, ?_, ?_⟩ <;> simp [World.cell?, h]
theorem blk_fz {W : World} {b T : Nat} {cs : Array Value} (h : W.heap[b]? = some (.cells cs T (0, 0))) (j : Nat) : W.frozen? ⟨b, j, none⟩ = false := by
  simp [World.frozen?, h]
end Go.Proofs.Ytifkadmljokffaa.Pre
