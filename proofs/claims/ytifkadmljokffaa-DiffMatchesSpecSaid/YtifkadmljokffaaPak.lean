/- Steps of a printed walk, each with what is alike in all of its uses already proved. -/
import Derived.Test.YtifkadmljokffaaWWords
import Derived.Test.YtifkadmljokffaaWN
import Derived.Test.YtifkadmljokffaaWLast
import Derived.Test.YtifkadmljokffaaWTab
import Derived.Test.YtifkadmljokffaaSht
import Derived.Test.YtifkadmljokffaaWMore
set_option linter.unusedVariables false
namespace Go.Proofs.Ytifkadmljokffaa.Pre
open Go.RowKit Go.Proofs.YtifkadmljokffaaW.PrintWords Go.Proofs.YtifkadmljokffaaW.PrintLast
abbrev ob (A : Option Addr) (n c : Nat) : Option Nat := (Value.slice A n c).ownBlock
abbrev Bk (w : World) (g : Nat) (t : TypeId) (cs : Array Value) : Prop := Aside0 (w.heap[g]? = some (.cells cs t (0, 0)))
abbrev Nq (a b : Nat) : Prop := Aside0 (a ≠ b)
def mb (n m : Nat) : Array Bool := ((List.range n).map m.testBit).toArray
section
variable {P : Program} {ops : Array Oper} {Q : Exit → Act → World → Prop} {md : Region.Mode} {S : World → Prop} {ds : List Nat} {T : Bool × List (List Nat × List Nat)} {B : List Nat}
theorem pA {oi : Oper} {v : Value} {fuel : Nat} {l : Array Bool} {a a' : Act} {w : World} (i N : Nat) (l' : Array Bool) (hT : Aside0 (rtab md ops = T)) (hi : ops[i]? = some oi) (hN : oi.dst = some N) (h : wpAnyLast P md ops Q S ds fuel l' a' w)
    (hc : anyT T l.toList l'.toList i = true := by kernel_rfl) (hQ : ∀ c a w, Q (.panic c) (a.put oi.dst v) w → Q (.panic c) a w := by exact fun _ _ _ h => h) (hw : Region.wanted oi (yielded ops a.tmps) = true := by rfl)
    (hy : ∀ w, (execOp a.eval oi).run P w = .ok (.value v) w := by intro w'; go_simp; with_reducible rfl) (ha : a.put (some N) v = a' := by simp only [Act.put, List.setIfInBounds_toArray, List.set_cons_zero, List.set_cons_succ, i64_w, i32_w]; rfl) :
    wpAnyLast P md ops Q S ds (fuel + 1) l a w := pure_ l' hi hN (any_of hT.out hc) hQ (.inl ⟨hw, hy⟩) ha h
theorem pB {oi : Oper} {v : Value} {fuel : Nat} {l : Array Bool} {a a' : Act} {w : World} (i N : Nat) (l' : Array Bool) (hi : ops[i]? = some oi) (hN : oi.dst = some N) (h : wpAnyLast P md ops Q S ds fuel l' a' w)
    (hc : anyB md ops l l' i = true := by kernel_rfl) (hQ : ∀ c a w, Q (.panic c) (a.put oi.dst v) w → Q (.panic c) a w := by exact fun _ _ _ h => h) (hw : Region.wanted oi (yielded ops a.tmps) = true := by rfl)
    (hy : ∀ w, (execOp a.eval oi).run P w = .ok (.value v) w := by intro w'; go_simp; with_reducible rfl) (ha : a.put (some N) v = a' := by simp only [Act.put, List.setIfInBounds_toArray, List.set_cons_zero, List.set_cons_succ, i64_w, i32_w]; rfl) :
    wpAnyLast P md ops Q S ds (fuel + 1) l a w := pure_ l' hi hN hc hQ (.inl ⟨hw, hy⟩) ha h
theorem pU {oi : Oper} {fuel : Nat} {l : Array Bool} {a a' : Act} {w : World} (i N : Nat) (l' : Array Bool) (hT : Aside0 (rtab md ops = T)) (hi : ops[i]? = some oi) (hN : oi.dst = some N) (h : wpAnyLast P md ops Q S ds fuel l' a' w)
    (hc : anyT T l.toList l'.toList i = true := by kernel_rfl) (hQ : ∀ c a w, Q (.panic c) (a.put oi.dst undef) w → Q (.panic c) a w := by exact fun _ _ _ h => h) (hw : Region.wanted oi (yielded ops a.tmps) = false := by rfl)
    (ha : a.put (some N) undef = a' := by simp only [Act.put, List.setIfInBounds_toArray, List.set_cons_zero, List.set_cons_succ, i64_w, i32_w]; rfl) :
    wpAnyLast P md ops Q S ds (fuel + 1) l a w := pure_ l' hi hN (any_of hT.out hc) hQ (.inr ⟨hw, rfl⟩) ha h
theorem tA {oi : Oper} {v : Value} {fuel : Nat} {l : Array Bool} {a a' : Act} {w : World} (i N : Nat) (l' : Array Bool) (hT : Aside0 (rtab md ops = T)) (hB : Aside0 (waitsOk T.2 B = true)) (hS : S w) (hi : ops[i]? = some oi) (hN : oi.dst = some N)
    (hy : ∀ w, S w → (execOp a.eval oi).run P w = .ok (.value v) w) (h : wpAnyLast P md ops Q S ds fuel l' a' w)
    (hc : takeW T B ds l.toList l'.toList i = true := by kernel_rfl) (hQ : ∀ c a w, Q (.panic c) (a.put oi.dst v) w → Q (.panic c) a w := by exact fun _ _ _ h => h) (hw : Region.wanted oi (yielded ops a.tmps) = true := by rfl)
    (ha : a.put (some N) v = a' := by simp only [Act.put, List.setIfInBounds_toArray, List.set_cons_zero, List.set_cons_succ, i64_w, i32_w]; rfl) :
    wpAnyLast P md ops Q S ds (fuel + 1) l a w := take_ l' hi hN (take_ofW hT.out hB.out hc) hQ (.inl ⟨hw, hy⟩) hS ha h
theorem tB {oi : Oper} {v : Value} {fuel : Nat} {l : Array Bool} {a a' : Act} {w : World} (i N : Nat) (l' : Array Bool) (hS : S w) (hi : ops[i]? = some oi) (hN : oi.dst = some N)
    (hy : ∀ w, S w → (execOp a.eval oi).run P w = .ok (.value v) w) (h : wpAnyLast P md ops Q S ds fuel l' a' w)
    (hc : takeB md ops ds l l' i = true := by kernel_rfl) (hQ : ∀ c a w, Q (.panic c) (a.put oi.dst v) w → Q (.panic c) a w := by exact fun _ _ _ h => h) (hw : Region.wanted oi (yielded ops a.tmps) = true := by rfl)
    (ha : a.put (some N) v = a' := by simp only [Act.put, List.setIfInBounds_toArray, List.set_cons_zero, List.set_cons_succ, i64_w, i32_w]; rfl) :
    wpAnyLast P md ops Q S ds (fuel + 1) l a w := take_ l' hi hN hc hQ (.inl ⟨hw, hy⟩) hS ha h
end
/-! ### what stays as it is while the world goes on: out of the facts that stand in the context -/
theorem eS {w W : World} {g j : Nat} {v : Value} (h : Below w.heap.size w W) (hg : Aside0 (w.heap.size ≤ g)) : Below w.heap.size w (W.setCell ⟨g, j, none⟩ v) := below_set h hg.out
theorem eB {P : Prop} (h : P := by repeat (first | (with_reducible first | exact HB.out | apply eA | apply eN | apply eD | refine eS ?_ (by assumption)) | exact HB.out)) : P := h
theorem sBe {w w0 w1 w2 : World} (H : Aside0 (Below w.heap.size w w0)) (hb : Below w1.heap.size w1 w2) (h : Below w.heap.size w w1 := by exact eB) : Aside0 (Below w.heap.size w w2) := ⟨below_step h hb⟩
theorem gBe {w w0 w1 : World} {b : Nat} (H : Aside0 (Below w.heap.size w w0)) (hg : b = w1.heap.size) (h : Below w.heap.size w w1 := by exact eB) : Aside0 (w.heap.size ≤ b) := ⟨hg ▸ below_size h⟩
def Fw (w : World) (g : Nat) (t : TypeId) (f : Array Value → Array Value) (cs' : Array Value) : Prop := ∃ cs, w.heap[g]? = some (.cells cs t (0, 0)) ∧ f cs = cs'
section
variable {w : World} {g : Nat} {t : TypeId} {f : Array Value → Array Value} {cs cs' : Array Value}
theorem qZ (h : Fw w g t (fun c => c) cs') : w.heap[g]? = some (.cells cs' t (0, 0)) := by obtain ⟨c, h, rfl⟩ := h; exact h
theorem qA (h : Fw w g t f cs') (o : Obj) : Fw (w.alloc o) g t f cs' := by obtain ⟨c, h, e⟩ := h; exact ⟨c, blk_alloc h o, e⟩
theorem qD (h : Fw w g t f cs') : Fw w.drew g t f cs' := by obtain ⟨c, h, e⟩ := h; exact ⟨c, blk_drew h, e⟩
theorem qN (h : Fw w g t f cs') (n : Nat) : Fw (w.drewN n) g t f cs' := by obtain ⟨c, h, e⟩ := h; exact ⟨c, blk_drewN h n, e⟩
theorem qF {b i : Nat} {u : Value} (h : Fw w g t f cs') (hp : Aside0 (g ≠ b)) : Fw (w.setCell ⟨b, i, none⟩ u) g t f cs' := by obtain ⟨c, h, e⟩ := h; exact ⟨c, blk_far h (p := ⟨b, i, none⟩) hp.out u, e⟩
theorem qP {i : Nat} {u : Value} (h : Fw w g t (fun c => f (c.setIfInBounds i u)) cs') : Fw (w.setCell ⟨g, i, none⟩ u) g t f cs' := by obtain ⟨c, h, e⟩ := h; exact ⟨_, blk_put h i u rfl, e⟩
theorem q0 (h : Aside0 (w.heap[g]? = some (.cells cs t (0, 0)))) (e : f cs = cs') : Fw w g t f cs' := ⟨cs, h.out, e⟩
end
theorem kK {w : World} {g : Nat} {t : TypeId} {cs' : Array Value} (h : Fw w g t (fun c => c) cs' := by repeat (first | (with_reducible first | apply qN | apply qD | apply qA | apply qP | refine qF ?_ (by assumption)) | exact q0 (by with_reducible assumption) (by rfl))) : w.heap[g]? = some (.cells cs' t (0, 0)) := qZ h
theorem lJ {w0 w1 w2 : World} {g : Nat} {t : TypeId} {cs : Array Value} (B : Aside0 (w0.heap[g]? = some (.cells cs t (0, 0)))) (hb : Below w1.heap.size w1 w2) (h : w1.heap[g]? = some (.cells cs t (0, 0)) := by exact kK) : Aside0 (w2.heap[g]? = some (.cells cs t (0, 0))) := ⟨blk_below h hb⟩
theorem lK {w1 w2 : World} (g : Nat) (t : TypeId) (cs : Array Value) (hb : Below w1.heap.size w1 w2) (h : w1.heap[g]? = some (.cells cs t (0, 0)) := by exact kK) : Aside0 (w2.heap[g]? = some (.cells cs t (0, 0))) := ⟨blk_below h hb⟩
theorem nL {w0 w1 : World} {g b : Nat} {t : TypeId} {cs : Array Value} (B : Aside0 (w0.heap[g]? = some (.cells cs t (0, 0)))) (hg : b = w1.heap.size) (h : w1.heap[g]? = some (.cells cs t (0, 0)) := by exact kK) : Aside0 (g ≠ b) := ⟨hg ▸ Nat.ne_of_lt (blk_lt h)⟩
theorem nG {w0 w1 : World} {g b : Nat} {t : TypeId} {cs : Array Value} (B : Aside0 (w0.heap[g]? = some (.cells cs t (0, 0)))) (hg : b = w1.heap.size) (h : w1.heap[g]? = some (.cells cs t (0, 0)) := by exact kK) : Aside0 (b ≠ g) := ⟨hg ▸ Nat.ne_of_gt (blk_lt h)⟩
theorem nLk {w1 : World} {b : Nat} (g : Nat) (t : TypeId) (cs : Array Value) (hg : b = w1.heap.size) (h : w1.heap[g]? = some (.cells cs t (0, 0)) := by exact kK) : Aside0 (g ≠ b) := ⟨hg ▸ Nat.ne_of_lt (blk_lt h)⟩
theorem nGk {w1 : World} {b : Nat} (g : Nat) (t : TypeId) (cs : Array Value) (hg : b = w1.heap.size) (h : w1.heap[g]? = some (.cells cs t (0, 0)) := by exact kK) : Aside0 (b ≠ g) := ⟨hg ▸ Nat.ne_of_gt (blk_lt h)⟩
theorem hC {w : World} {g : Nat} {t : TypeId} {cs : Array Value} (B : Aside0 (w.heap[g]? = some (.cells cs t (0, 0)))) (i : Nat) (v : Value) (e : cs[i]? = some v := by rfl) : w.cell? ⟨g, i, none⟩ = some v := (blk_cell B.out i).trans e
theorem hX {w w' : World} {a : Addr} {v : Value} (H : Aside0 (Below w.heap.size w w')) (h : w.cell? a = some v) : w'.cell? a = some v := (H.out.cell (World.block_lt_of_cell? w a h)).trans h
theorem dA {p : Prop} [Decidable p] (h : decide p = true := by first | (with_reducible assumption) | assumption) : p := of_decide_eq_true h
theorem rW {P : Prop} (h : P := by first | rfl | (simp [errW_none, errW_some] <;> rfl) | (simp [*, errW_none, errW_some] <;> rfl)) : P := h
theorem cBe {α : Type} {d : Kd α} {w0 w' : World} {A : Option Addr} {n : Nat} {xs : List α} (H : Aside0 (d.C w0 A n xs)) (h : d.C w' A n xs := by repeat (first | exact (Kd.C_below (Aside0.out (by with_reducible assumption)) HB.out) | (with_reducible refine Kd.C_alloc ?_ _) | (with_reducible refine Kd.C_drewN ?_ _) | (with_reducible refine Kd.C_drew ?_) | exact (Kd.C_below (Aside0.out (by assumption)) HB.out))) : d.C w' A n xs := h
theorem mA {P : Prop} (h : P := by (try simp only [List.map_toArray, List.map_cons, List.map_nil]); first | done | rfl | (simp only [List.length_drop, List.length_take]; rfl)) : P := h
theorem rK {α : Type} {d : Kd α} {e : Nat} {W W0 : World} {base : Nat} {ok : Nat → Prop} {v : Value} {xs : List α} (H : Aside0 (d.R e W0 base ok v xs)) (h : d.R e W base ok v xs := by (with_reducible repeat first | apply rA | apply rN | apply rD); exact Aside0.out (by with_reducible assumption)) : d.R e W base ok v xs := h
theorem vK {α : Type} {d : Kd α} {e : Nat} {W W0 : World} {base : Nat} {ok : Nat → Prop} {v : Value} {xs : List α} (H : Aside0 (d.V e W0 base ok v xs)) (h : d.V e W base ok v xs := by (with_reducible repeat (first | apply Kd.V_alloc | apply Kd.V_drewN | apply Kd.V_drew)); exact Aside0.out (by with_reducible assumption)) : d.V e W base ok v xs := h
section
variable {P : Program} {ops : Array Oper} {rest : List Oper} {o : Oper} {a : Act} {Q : Exit → Act → World → Prop}
theorem bE {W : World} (N : Tmp) (cs : Array Value) (t : TypeId)
    (h : ∀ g, g = W.heap.size → ∀ w1, w1.heap[g]? = some (.cells cs t (0, 0)) → Below W.heap.size W w1 → wpList P ops Q rest (a.put o.dst (.pointer (some ⟨g, 0, none⟩))) w1)
    (hd : o.dst = some N := by rfl) (hgd : o.guard = none := by rfl) (hrun : (execOp a.eval o).run P W = .ok (.value (.pointer (some ⟨W.heap.size, 0, none⟩))) (W.alloc (.cells cs t (0, 0))) := by first | (go_simp; done) | (go_simp; rfl)) : wpList P ops Q (o :: rest) a W := box_event hgd hd hrun h
end
section
variable {P : Program} {ops : Array Oper} {Q : Exit → Act → World → Prop} {md : Region.Mode} {S : World → Prop} {ds : List Nat} {o : Oper} {Kc : Act → World → Prop}
theorem nmA {fuel : Nat} {l : Array Bool} {a0 a' : Act} {v : Value} {w : World} (N : Option Tmp) (h : wpAnyLast P md ops Q S ds fuel l a' w) (ha : Act.put a0 N v = a' := by simp only [Act.put, List.setIfInBounds_toArray, List.set_cons_zero, List.set_cons_succ, i64_w, i32_w]; rfl) : wpAnyLast P md ops Q S ds fuel l (Act.put a0 N v) w := norm_ ha h
theorem nmB {fuel : Nat} {l : Array Bool} {a a' : Act} {w : World} (h : wpAnyLast P md ops Q S ds fuel l a' w) (ha : a = a' := by first | (simp only [putAll, Act.put, List.setIfInBounds_toArray, List.set_cons_zero, List.set_cons_succ]; done) | (simp only [putAll, Act.put, List.setIfInBounds_toArray, List.set_cons_zero, List.set_cons_succ]; rfl)) : wpAnyLast P md ops Q S ds fuel l a w := norm_ ha h
theorem bS {a : Act} {W : World} (N : Tmp) (cs : Array Value) (t : TypeId)
    (h : ∀ g, g = W.heap.size → ∀ w1, w1.heap[g]? = some (.cells cs t (0, 0)) → Below W.heap.size W w1 → Kc (a.put o.dst (.pointer (some ⟨g, 0, none⟩))) w1)
    (hd : o.dst = some N := by rfl) (hw : Region.wanted o (yielded ops a.tmps) = true := by rfl) (hrun : (execOp a.eval o).run P W = .ok (.value (.pointer (some ⟨W.heap.size, 0, none⟩))) (W.alloc (.cells cs t (0, 0))) := by first | (go_simp; done) | (go_simp; rfl)) :
    if Region.wanted o (yielded ops a.tmps) = true then Oper.wp P o a W Kc Q else Kc (a.put o.dst undef) W := box_step hw hd hrun h
end
theorem sK {α : Type} {d : Kd α} {e : Nat} {W W0 : World} {base : Nat} {ok : Nat → Prop} {v : Value} {xs : List α} (H : Aside0 (d.S e W0 base ok v xs)) (h : d.S e W base ok v xs := by (with_reducible repeat (first | apply Kd.S_alloc | apply Kd.S_drewN | apply Kd.S_drew)); exact Aside0.out (by with_reducible assumption)) : d.S e W base ok v xs := h
theorem nK {α : Type} {d : Kd α} {e : Nat} {W W0 : World} {base : Nat} {ok : Nat → Prop} {v : Value} {xs : List α} (H : Aside0 (d.N e W0 base ok v xs)) (h : d.N e W base ok v xs := by (with_reducible repeat first | apply nA | apply nN | apply nD); exact Aside0.out (by with_reducible assumption)) : d.N e W base ok v xs := h
theorem rL {α : Type} {d : Kd α} {e : Nat} {W W0 w1 : World} {base : Nat} {ok : Nat → Prop} {v : Value} {xs : List α} (H : Aside0 (d.R e W0 base ok v xs)) (hb : Below W.heap.size W w1) (h : d.R e W base ok v xs := by (with_reducible repeat first | apply rA | apply rN | apply rD); exact Aside0.out (by with_reducible assumption)) : Aside0 (d.R e w1 base ok v xs) := ⟨Kd.R_below h hb⟩
theorem nE {α : Type} {d : Kd α} {e : Nat} {W W0 w1 : World} {base : Nat} {ok : Nat → Prop} {v : Value} {xs : List α} (H : Aside0 (d.N e W0 base ok v xs)) (a : Nat) (hg : a = W.heap.size) (hb : Below W.heap.size W w1) (h : d.N e W base ok v xs := by (with_reducible repeat first | apply nA | apply nN | apply nD); exact Aside0.out (by with_reducible assumption)) : Aside0 (d.N e w1 base (fun k => ok k ∧ k ≠ a) v xs) := ⟨Kd.N_below (Kd.N_elderB h a (Nat.le_of_eq hg.symm)) hb⟩
theorem vE {α : Type} {d : Kd α} {e : Nat} {W W0 w1 : World} {base : Nat} {ok : Nat → Prop} {v : Value} {xs : List α} (H : Aside0 (d.V e W0 base ok v xs)) (a : Nat) (hg : a = W.heap.size) (hb : Below W.heap.size W w1) (h : d.V e W base ok v xs := by (with_reducible repeat (first | apply Kd.V_alloc | apply Kd.V_drewN | apply Kd.V_drew)); exact Aside0.out (by with_reducible assumption)) : Aside0 (d.V e w1 base (fun k => ok k ∧ k ≠ a) v xs) := ⟨Kd.V_below (Kd.V_elderB h a (Nat.le_of_eq hg.symm)) hb⟩
theorem rM {α : Type} {d : Kd α} {e : Nat} {W W0 : World} {base : Nat} {ok ok' : Nat → Prop} {v : Value} {xs : List α} (H : Aside0 (d.R e W0 base ok v xs)) (f : ∀ k, ok k → ok' k) (h : d.R e W base ok v xs := by (with_reducible repeat first | apply rA | apply rN | apply rD); exact Aside0.out (by with_reducible assumption)) : d.R e W base ok' v xs := Kd.R_mono h f
theorem nM {α : Type} {d : Kd α} {e : Nat} {W W0 : World} {base : Nat} {ok ok' : Nat → Prop} {v : Value} {xs : List α} (H : Aside0 (d.N e W0 base ok v xs)) (f : ∀ k, ok k → ok' k) (h : d.N e W base ok v xs := by (with_reducible repeat first | apply nA | apply nN | apply nD); exact Aside0.out (by with_reducible assumption)) : d.N e W base ok' v xs := Kd.N_mono h f
theorem vM {α : Type} {d : Kd α} {e : Nat} {W W0 : World} {base : Nat} {ok ok' : Nat → Prop} {v : Value} {xs : List α} (H : Aside0 (d.V e W0 base ok v xs)) (f : ∀ k, ok k → ok' k) (h : d.V e W base ok v xs := by (with_reducible repeat (first | apply Kd.V_alloc | apply Kd.V_drewN | apply Kd.V_drew)); exact Aside0.out (by with_reducible assumption)) : d.V e W base ok' v xs := Kd.V_mono h f
theorem sM {α : Type} {d : Kd α} {e : Nat} {W W0 : World} {base : Nat} {ok ok' : Nat → Prop} {v : Value} {xs : List α} (H : Aside0 (d.S e W0 base ok v xs)) (f : ∀ k, ok k → ok' k) (h : d.S e W base ok v xs := by (with_reducible repeat (first | apply Kd.S_alloc | apply Kd.S_drewN | apply Kd.S_drew)); exact Aside0.out (by with_reducible assumption)) : d.S e W base ok' v xs := Kd.S_mono h f
end Go.Proofs.Ytifkadmljokffaa.Pre
