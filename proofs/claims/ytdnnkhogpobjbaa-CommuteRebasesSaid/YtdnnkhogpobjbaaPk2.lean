/- Further steps of a printed walk: a row behind stores elsewhere, and a row of a callee seen by the caller. -/
import Derived.Test.YtdnnkhogpobjbaaPak
set_option linter.unusedVariables false
namespace Go.Proofs.Ytdnnkhogpobjbaa.Pre
open Go.RowKit Go.Proofs.YtdnnkhogpobjbaaW.PrintWords Go.Proofs.YtdnnkhogpobjbaaW.PrintLast
section
variable {α : Type} {d : Kd α} {e : Nat} {W W0 : World} {base : Nat} {ok ok' : Nat → Prop} {v : Value} {xs : List α}
theorem farR (h : d.R e W base ok v xs) {b i : Nat} (hok : ∀ k, ok k → k ≠ b) (u : Value) : d.R e (W.setCell ⟨b, i, none⟩ u) base ok v xs := Kd.R_far (p := ⟨b, i, none⟩) h hok u
theorem farN (h : d.N e W base ok v xs) {b i : Nat} (hok : ∀ k, ok k → k ≠ b) (u : Value) : d.N e (W.setCell ⟨b, i, none⟩ u) base ok v xs := Kd.N_far (p := ⟨b, i, none⟩) h hok u
theorem farV (h : d.V e W base ok v xs) {b i : Nat} (hok : ∀ k, ok k → k ≠ b) (u : Value) : d.V e (W.setCell ⟨b, i, none⟩ u) base ok v xs := Kd.V_far (p := ⟨b, i, none⟩) h hok u
theorem farS (h : d.S e W base ok v xs) {b i : Nat} (hok : ∀ k, ok k → k ≠ b) (u : Value) : d.S e (W.setCell ⟨b, i, none⟩ u) base ok v xs := Kd.S_far (p := ⟨b, i, none⟩) h hok u
theorem fR (H : d.R e W0 base ok v xs) (h : d.R e W0 base ok v xs → d.R e W base ok v xs := by intro H_; (repeat (with_reducible apply farR; case hok => (intro k_ hk_; (repeat with_reducible cases ‹_ ∧ _›); with_reducible assumption))); exact H_)
    (m : ∀ k, ok k → ok' k := by intro k_ hk_; (repeat with_reducible cases ‹_ ∧ _›); (repeat' with_reducible refine And.intro ?_ ?_); all_goals (first | with_reducible assumption | trivial)) : d.R e W base ok' v xs := Kd.R_mono (h H) m
theorem fN (H : d.N e W0 base ok v xs) (h : d.N e W0 base ok v xs → d.N e W base ok v xs := by intro H_; (repeat (with_reducible apply farN; case hok => (intro k_ hk_; (repeat with_reducible cases ‹_ ∧ _›); with_reducible assumption))); exact H_)
    (m : ∀ k, ok k → ok' k := by intro k_ hk_; (repeat with_reducible cases ‹_ ∧ _›); (repeat' with_reducible refine And.intro ?_ ?_); all_goals (first | with_reducible assumption | trivial)) : d.N e W base ok' v xs := Kd.N_mono (h H) m
theorem fV (H : d.V e W0 base ok v xs) (h : d.V e W0 base ok v xs → d.V e W base ok v xs := by intro H_; (repeat (with_reducible apply farV; case hok => (intro k_ hk_; (repeat with_reducible cases ‹_ ∧ _›); with_reducible assumption))); exact H_)
    (m : ∀ k, ok k → ok' k := by intro k_ hk_; (repeat with_reducible cases ‹_ ∧ _›); (repeat' with_reducible refine And.intro ?_ ?_); all_goals (first | with_reducible assumption | trivial)) : d.V e W base ok' v xs := Kd.V_mono (h H) m
theorem fS (H : d.S e W0 base ok v xs) (h : d.S e W0 base ok v xs → d.S e W base ok v xs := by intro H_; (repeat (with_reducible apply farS; case hok => (intro k_ hk_; (repeat with_reducible cases ‹_ ∧ _›); with_reducible assumption))); exact H_)
    (m : ∀ k, ok k → ok' k := by intro k_ hk_; (repeat with_reducible cases ‹_ ∧ _›); (repeat' with_reducible refine And.intro ?_ ?_); all_goals (first | with_reducible assumption | trivial)) : d.S e W base ok' v xs := Kd.S_mono (h H) m
theorem gR {k : Nat} (H : Aside0 (d.R e W0 base ok v xs)) (hk : W.heap.size ≤ k) (h : d.R e W base ok v xs := by exact rK (by with_reducible assumption)) : some k ≠ v.ownBlock := Kd.fresh' (Kd.R_lt h) k hk
theorem gN {k : Nat} (H : Aside0 (d.N e W0 base ok v xs)) (hk : W.heap.size ≤ k) (h : d.N e W base ok v xs := by exact nK (by with_reducible assumption)) : some k ≠ v.ownBlock := Kd.fresh' (Kd.N_lt h) k hk
end
theorem zA {w : World} {g : Nat} (h : g < w.heap.size) (o : Obj) : g < (w.alloc o).heap.size := Nat.lt_of_lt_of_le h (Below.alloc (Below.refl w.heap.size w) (Nat.le_refl _) o).size
theorem zD {w : World} {g : Nat} (h : g < w.heap.size) : g < w.drew.heap.size := h
theorem zN {w : World} {g : Nat} (h : g < w.heap.size) (n : Nat) : g < (w.drewN n).heap.size := h
theorem zS {w : World} {g : Nat} (h : g < w.heap.size) (p : Addr) (u : Value) : g < (w.setCell p u).heap.size := by simpa [World.setCell] using h
theorem gB {w0 W : World} {g k : Nat} {t : TypeId} {cs : Array Value} (B : Aside0 (w0.heap[g]? = some (.cells cs t (0, 0)))) (hk : W.heap.size ≤ k) (h : g < W.heap.size := by (with_reducible repeat first | apply zN | apply zD | apply zA | apply zS); exact blk_lt (Aside0.out (by with_reducible assumption))) : k ≠ g := Nat.ne_of_gt (Nat.lt_of_lt_of_le h hk)
theorem oE {S N R : Prop} (h : S ∨ N) (f : N → R) (g : S → R := by intro hs_; (repeat with_reducible cases ‹_ ∧ _›); with_reducible assumption) : R := h.elim g f
end Go.Proofs.Ytdnnkhogpobjbaa.Pre

