/- From what can be read as data to the words of the printed proofs: a value of a type is told by a kind. No function of the program in sight. -/
import Derived.Test.YtifkadmljokffaaWWords
import Derived.ChangeArms
import Derived.DataReads
import Derived.Deep.Slices
import Derived.WideShapes
import Derived.SizedLaws
set_option linter.unusedVariables false
namespace Go.Proofs.Ytifkadmljokffaa.Op
open Go.RowKit Go.ChangeShapes Go.WideShapes Go.Proofs.YtifkadmljokffaaW.PrintWords

theorem list_of {α : Type} {p : Nat → α → Prop} (len : Nat) (h : ∀ i, i < len → ∃ y, p i y) : ∃ ys : List α, ys.length = len ∧ ∀ i y, ys[i]? = some y → p i y := by
  induction len with
  | zero => exact ⟨[], rfl, fun i y h => by simp at h⟩
  | succ len ih =>
    obtain ⟨ys, h1, h2⟩ := ih (fun i hi => h i (by omega))
    obtain ⟨y, h3⟩ := h len (by omega)
    refine ⟨ys ++ [y], by simp [h1], fun i z hz => ?_⟩
    by_cases hi : i < ys.length
    · rw [List.getElem?_append_left hi] at hz
      exact h2 i z hz
    · rw [List.getElem?_append_right (by omega)] at hz
      have e0 : i - ys.length = 0 := by
        rcases Nat.eq_zero_or_pos (i - ys.length) with h | h
        · exact h
        · rw [List.getElem?_eq_none (by simp; omega)] at hz; cases hz
      rw [e0] at hz
      simp at hz
      subst hz
      have hi' : i = len := by omega
      subst hi'
      exact h3

/-- What can be read at type t is told by kind d, and G holds of it. -/
def Opens (P : Program) (t : TypeId) {α : Type} (d : Kd α) (G : α → Prop) : Prop :=
  ∀ {H : Type} {enc : TypeId × Value → H} {w : World} {base : Nat} {spare : Nat → Bool} {held : Bool} {fuel : Nat} {cs : List Value} {x : DataW H × List MemPlace},
    DataW.trod enc P w base spare held fuel t cs = some x → ∃ y, d.K w y cs ∧ G y
section
variable {P : Program} {t : TypeId}
theorem opens_int {k : IntKind} (ht : P.underlying t = some (.int k)) : Opens P t (Kd.int k) (fun x => (Lit.int k x).wf = true) := by
  intro H enc w base spare held fuel cs x h
  obtain ⟨n, rfl, _, hw⟩ := DataW.trod_int ht h
  exact ⟨n, rfl, hw⟩
theorem opens_bool (ht : P.underlying t = some .bool) : Opens P t Kd.bool (fun _ => True) := by
  intro H enc w base spare held fuel cs x h
  obtain ⟨b, rfl, _⟩ := DataW.trod_bool ht h
  exact ⟨b, rfl, trivial⟩
theorem opens_string (ht : P.underlying t = some .string) : Opens P t Kd.string (fun s => s.size ≤ maxLen) := by
  intro H enc w base spare held fuel cs x h
  obtain ⟨s, rfl, _, hs⟩ := DataW.trod_string ht h
  exact ⟨s, rfl, hs⟩
theorem opens_slice {e : TypeId} {α : Type} {d : Kd α} {G : α → Prop} (ht : P.underlying t = some (.slice e)) (hc : P.cellsOf e = d.sz) (he : Opens P e d G) :
    Opens P t (Kd.slice e d) (fun xs => xs.length ≤ maxLen ∧ ∀ x ∈ xs, G x) := by
  intro H enc w base spare held fuel cs x h
  rcases Deep.open_slice ht h with ⟨rfl, _⟩ | ⟨a, len, cap, m, n, D, Pl, rfl, hb, hl, hm, hmm, _, hx⟩
  · exact ⟨[], ⟨none, 0, rfl, Nat.le_refl _, rfl, by simp, fun hn => absurd hn (by simp)⟩, by simp, fun x hx => absurd hx (by simp)⟩
  · have hlm : len ≤ m := by rw [hmm]; split <;> omega
    have hel : ∀ i, i < len → ∃ y, ∃ cs', w.cells? base (a.add (i * P.cellsOf e)) (P.cellsOf e) = some cs' ∧ d.K w y cs' ∧ G y := by
      intro i hi
      obtain ⟨cs', h1, h2⟩ := hx i (by omega)
      obtain ⟨y, hy, hg⟩ := he h2
      exact ⟨y, cs', h1, hy, hg⟩
    have hlist := list_of len hel
    obtain ⟨ys, hlen, hys⟩ := hlist
    subst hlen
    refine ⟨ys, ⟨some a, cap, rfl, hl, rfl, by simp only [maxLen] at hm; omega, fun _ => ⟨a, rfl, fun j p hj => ?_⟩⟩, by omega, fun y hy => ?_⟩
    · obtain ⟨cs', h1, h2, _⟩ := hys j p hj
      obtain ⟨_, hl', hc'⟩ := World.cells?_some h1
      refine ⟨cs', by rw [hl', hc], h2, fun i u hu => ?_⟩
      have hi : i < P.cellsOf e := by rw [← hl']; exact (List.getElem?_eq_some_iff.1 hu).1
      rw [← hc, ← Deep.add_add, hc' i hi]
      exact hu
    · obtain ⟨i, hi⟩ := List.getElem?_of_mem hy
      obtain ⟨_, _, _, hg⟩ := hys i y hi
      exact hg

/-- The fields of a struct, from the cell at place off on. -/
def OpensFs (P : Program) (fs : List Field) (off : Nat) {α : Type} (d : Kd α) (G : α → Prop) : Prop :=
  ∀ {H : Type} {enc : TypeId × Value → H} {w : World} {base : Nat} {spare : Nat → Bool} {held : Bool} {fuel : Nat} {cs : List Value} {xs : List (DataW H × List MemPlace)},
    cs.length = off + d.sz → (fs.mapM fun f => DataW.trod enc P w base spare held fuel f.type ((cs.drop f.offset).take (P.cellsOf f.type))) = some xs → ∃ y, d.K w y (cs.drop off) ∧ G y
theorem opensFs_last {f : Field} {α : Type} {d : Kd α} {G : α → Prop} (hz : P.cellsOf f.type = d.sz) (h : Opens P f.type d G) : OpensFs P [f] f.offset d G := by
  intro H enc w base spare held fuel cs xs hl hm
  simp only [List.mapM_cons, List.mapM_nil, Option.bind_eq_bind, Option.bind_eq_some_iff, Option.pure_def] at hm
  obtain ⟨x, hx, _⟩ := hm
  rw [List.take_of_length_le (by rw [List.length_drop]; omega)] at hx
  exact h hx
theorem opensFs_cons {f : Field} {fs : List Field} {α β : Type} {a : Kd α} {b : Kd β} {G1 : α → Prop} {G2 : β → Prop} (hz : P.cellsOf f.type = a.sz) (h : Opens P f.type a G1) (hr : OpensFs P fs (f.offset + a.sz) b G2) :
    OpensFs P (f :: fs) f.offset (Kd.pair a b) (fun p => G1 p.1 ∧ G2 p.2) := by
  intro H enc w base spare held fuel cs xs hl hm
  simp only [List.mapM_cons, Option.bind_eq_bind, Option.bind_eq_some_iff, Option.pure_def] at hm
  obtain ⟨x, hx, ys, hys, _⟩ := hm
  have hl' : cs.length = f.offset + (a.sz + b.sz) := hl
  obtain ⟨y, k1, g1⟩ := h hx
  obtain ⟨z, k2, g2⟩ := hr (by omega) hys
  refine ⟨(y, z), ⟨_, _, ?_, k1, k2⟩, g1, g2⟩
  rw [hz, ← List.drop_drop]
  exact (List.take_append_drop _ _).symm
theorem opens_struct {fs : Array Field} {α β : Type} {d : Kd α} {G : α → Prop} {f : β → α} (g : α → β) (hg : ∀ a, f (g a) = a) (ht : P.underlying t = some (.struct fs)) (hz : P.cellsOf t = d.sz) (h : OpensFs P fs.toList 0 d G) :
    Opens P t (Kd.iso d f) (fun y => G (f y)) := by
  intro H enc w base spare held fuel cs x hx
  cases fuel with
  | zero => simp [DataW.trod] at hx
  | succ n =>
    rw [DataW.trod_step] at hx
    unfold DataW.trodStep at hx
    simp only [ht] at hx
    split at hx
    · rename_i hl
      obtain ⟨xs, hxs, _⟩ := Option.map_eq_some_iff.1 hx
      obtain ⟨y, k, gy⟩ := h (by omega) hxs
      refine ⟨g y, ?_, by show G (f (g y)); rw [hg]; exact gy⟩
      show d.K w (f (g y)) cs
      rw [hg]
      exact k
    · cases hx
end

/-- A parameter that is a slice. -/
theorem param_slice {P : Program} {t e : TypeId} {α : Type} {d : Kd α} {G : α → Prop} (ht : P.underlying t = some (.slice e)) (hc : P.cellsOf e = d.sz) (he : Opens P e d G) {H : Type} {enc : TypeId × Value → H} {W : World} {base : Nat} {spare : Nat → Bool} {held : Bool} {v : Value} {x : DataW H} {ps : List MemPlace} {b0 : Nat}
    (hv : Value.okWide P W .any b0 t v) (h : DataW.Trod enc P W base spare held t v x ps) :
    ∃ A c xs, v = .slice A xs.length c ∧ xs.length ≤ c ∧ d.C W A xs.length xs ∧ xs.length ≤ maxLen ∧ ∀ x ∈ xs, G x := by
  obtain ⟨a, len, cap, rfl⟩ := okWide_slice ht hv
  obtain ⟨fuel, hf⟩ := h
  obtain ⟨xs, ⟨A, c, h1, h2, h3⟩, h4, h5⟩ := opens_slice ht hc he hf
  simp only [Value.cells, List.cons.injEq, Value.slice.injEq] at h1
  obtain ⟨⟨rfl, rfl, rfl⟩, _⟩ := h1
  exact ⟨_, _, xs, rfl, h2, h3, h4, h5⟩
/-- It is no longer than its weight allows. -/
theorem param_sized {H : Type} {enc : TypeId × Value → H} {P : Program} {W : World} {base : Nat} {spare : Nat → Bool} {held : Bool} {t e : TypeId} {a : Option Addr} {len cap : Nat} {d : DataW H} {ps : List MemPlace} {ts : List TypeId} {ds : List (DataW H)} {j : Nat}
    (hsz : (DataW.weightsEach P ts ds).all (· ≤ reachBytes) = true) (ht : ts[j]? = some t) (hd : ds[j]? = some d) (hu : P.underlying t = some (.slice e)) {B : Nat} (hB : P.bytesOf e = B)
    (h : DataW.Trod enc P W base spare held t (.slice a len cap) d ps) : len * B ≤ 140737488351232 := by
  obtain ⟨fuel, hf⟩ := h
  rcases DataW.trod_slice hu hf with ⟨hcs, _⟩ | ⟨x, l, c, elems, rest, n, _, hcs, hx, _, _, _, hel, _⟩
  · simp only [Value.cells, List.cons.injEq, Value.slice.injEq] at hcs
    obtain ⟨⟨rfl, rfl, rfl⟩, _⟩ := hcs
    simp
  · simp only [Value.cells, List.cons.injEq, Value.slice.injEq] at hcs
    obtain ⟨⟨rfl, rfl, rfl⟩, _⟩ := hcs
    obtain ⟨hx, _⟩ := Prod.mk.inj hx
    subst hx
    have z := sized_slice hsz ht hd hu
    rw [hB, List.length_map, List.length_map, hel] at z
    exact Nat.le_trans (Nat.mul_le_mul_right _ (Nat.le_add_right _ _)) z
/-- A parameter that is a struct: its cells. -/
theorem param_struct {P : Program} {t : TypeId} {fs : Array Field} {β : Type} {d : Kd β} {G : β → Prop} (ht : P.underlying t = some (.struct fs)) (he : Opens P t d G) {H : Type} {enc : TypeId × Value → H} {W : World} {base : Nat} {spare : Nat → Bool} {held : Bool} {v : Value} {x : DataW H} {ps : List MemPlace} {b0 : Nat}
    (hv : Value.okWide P W .any b0 t v) (h : DataW.Trod enc P W base spare held t v x ps) :
    ∃ cs y, v = .agg cs ∧ d.K W y cs.toList ∧ G y := by
  obtain ⟨cs, rfl, _⟩ := okWide_struct ht hv
  obtain ⟨fuel, hf⟩ := h
  obtain ⟨y, h1, h2⟩ := he hf
  exact ⟨cs, y, rfl, h1, h2⟩
end Go.Proofs.Ytifkadmljokffaa.Op
