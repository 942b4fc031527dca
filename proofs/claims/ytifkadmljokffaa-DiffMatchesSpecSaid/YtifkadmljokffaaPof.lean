/- The patch of an alignment, step by step; rows whose elements' two inner rows share no block. -/
import Derived.Test.YtifkadmljokffaaAls
import Derived.Test.YtifkadmljokffaaWApart
import Derived.Test.YtifkadmljokffaaWMore
set_option linter.unusedVariables false
namespace Go.Proofs.Ytifkadmljokffaa.Pre
open Go.RowKit Go.Proofs.YtifkadmljokffaaW.PrintWords Go.Proofs.YtifkadmljokffaaW.PrintMore
def poLast (hs : List Hk) : Hk := hs.getD (hs.length - 1) (0, [], [])
def poStep (k : Int) (s : ByteArray) (at_ : Int) (op : Bool) (hs : List Hk) : List Hk :=
  let hs1 := if op = true then hs else hs ++ [(at_, [], [])]
  hs1.set (hs1.length - 1) (if k = 1 then ((poLast hs1).1, (poLast hs1).2.1 ++ [s], (poLast hs1).2.2) else ((poLast hs1).1, (poLast hs1).2.1, (poLast hs1).2.2 ++ [s]))
def poGo : List (Int × ByteArray) → Int → Bool → List Hk → List Hk
  | [], _, _, hs => hs
  | (k, s) :: r, at_, op, hs => if k = 0 then poGo r (at_ + 1) false hs else poGo r (if k = 1 then at_ + 1 else at_) true (poStep k s at_ op hs)
theorem poLast_snoc (hs : List Hk) (h : Hk) : poLast (hs ++ [h]) = h := by
  unfold poLast
  rw [List.getD_eq_getElem?_getD]
  simp
/-- A kind whose elements' cells are also of some form. -/
def also {α : Type} (d : Kd α) (P : List Value → Prop) : Kd α where
  sz := d.sz
  E := d.E
  K := d.K
  M := fun w base ok x cs => d.M w base ok x cs ∧ P cs
  K_len := d.K_len
  K_one := d.K_one
  K_below := d.K_below
  K_of_M := fun h => d.K_of_M h.1
  M_mono := fun hok h => ⟨d.M_mono hok h.1, h.2⟩
  M_bound := fun h => ⟨d.M_bound h.1, h.2⟩
  M_move := fun hm h => ⟨d.M_move hm h.1, h.2⟩
  M_lower := fun hb h => ⟨d.M_lower hb h.1, h.2⟩
theorem also_S {α : Type} {d : Kd α} {P : List Value → Prop} {e : Nat} {w : World} {base : Nat} {ok : Nat → Prop} {v : Value} {xs : List α} (h : Kd.S (also d P) e w base ok v xs) : Kd.S d e w base ok v xs := by
  obtain ⟨f, h0, inner, hown, hr1, hr2⟩ := h
  exact ⟨f, h0, inner, hown, hr1, fun m p hm => (hr2 m p hm).1⟩
def apartC (cs : List Value) : Prop := ∀ x v u, cs = [x, v, u] → ∀ k, v.ownBlock = some k → u.ownBlock = some k → False
end Go.Proofs.Ytifkadmljokffaa.Pre
