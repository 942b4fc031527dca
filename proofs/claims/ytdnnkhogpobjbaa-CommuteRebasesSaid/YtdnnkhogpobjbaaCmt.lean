/- Patches that are exchanged, plainly: both are read off one list of hunks of both sides, in the coordinates of the first text. -/
import Derived.Test.YtdnnkhogpobjbaaPch
set_option linter.unusedVariables false
namespace Go.Proofs.Ytdnnkhogpobjbaa.Pre

abbrev Sp := Int × Int
def gr (h : Hk) : Int := (h.2.2.length : Int) - (h.2.1.length : Int)
def oldsOf (p : List Hk) : List Sp := p.map fun h => (h.1, hkEnd h)
def newsGo : List Hk → Int → List Sp
  | [], _ => []
  | h :: r, s => (h.1 + s, h.1 + s + (h.2.2.length : Int)) :: newsGo r (s + gr h)
def apartB (x y : Sp) : Bool := decide (x.2 < y.1) || decide (y.2 < x.1)
def indepB (a b : List Sp) : Bool := a.all fun x => b.all fun y => apartB x y
def growAt : List Hk → List Sp → Int → Int
  | h :: r, s :: t, x => (if s.2 < x then gr h else 0) + growAt r t x
  | _, _, _ => 0
def shiftBy (p : List Hk) (b : List Hk) (sp : List Sp) (sg : Int) : List Hk := p.map fun h => (h.1 + sg * growAt b sp h.1, h.2.1, h.2.2)
def commA (p q : List Hk) : List Hk := shiftBy q p (newsGo p 0) (-1)
def commB (p a : List Hk) : List Hk := shiftBy p a (oldsOf a) 1
def commSpec (p q : List Hk) : List Hk × List Hk × Bool × Int × Int :=
  if patchFault p = (0, 0) then
    (if patchFault q = (0, 0) then
      (if indepB (newsGo p 0) (oldsOf q) = true then
        (if patchFault (commA p q) = (0, 0) then (if patchFault (commB p (commA p q)) = (0, 0) then (commA p q, commB p (commA p q), true, 0, 0) else ([], [], false, 10, -1)) else ([], [], false, 10, -1))
      else ([], [], false, 0, 0))
    else ([], [], false, (patchFault q).1, -2))
  else ([], [], false, patchFault p)

/-! ### hunks of both sides -/
abbrev Mx := List (Bool × Hk)
def lefts : Mx → List Hk
  | [] => []
  | (true, h) :: r => h :: lefts r
  | (false, _) :: r => lefts r
def rightsS : Int → Mx → List Hk
  | _, [] => []
  | s, (true, g) :: r => rightsS (s + gr g) r
  | s, (false, h) :: r => (h.1 + s, h.2.1, h.2.2) :: rightsS s r
def swp : Mx → Mx
  | [] => []
  | (t, h) :: r => (!t, h) :: swp r
def sepM : Mx → Int → Prop
  | [], _ => True
  | x :: r, low => low ≤ x.2.1 ∧ sepM r (hkEnd x.2 + 1)
def sepH : List Hk → Int → Prop
  | [], _ => True
  | h :: r, low => low ≤ h.1 ∧ sepH r (hkEnd h + 1)
theorem sep_ok {p : List Hk} : ∀ {low : Int}, okFrom p low → sepH p low := by
  induction p with
  | nil => intro low _; trivial
  | cons h r ih => intro low k; exact ⟨k.1.2.2.1, ih k.2⟩
theorem sepM_swp (L : Mx) : ∀ low, sepM L low → sepM (swp L) low := by
  induction L with
  | nil => intro low _; trivial
  | cons x r ih => intro low k; exact ⟨k.1, ih _ k.2⟩
theorem swp_swp (L : Mx) : swp (swp L) = L := by
  induction L with
  | nil => rfl
  | cons x r ih =>
    show (!!x.1, x.2) :: swp (swp r) = x :: r
    rw [ih, Bool.not_not]
theorem hkEnd_eq (h : Hk) : hkEnd h = h.1 + (h.2.1.length : Int) := rfl
theorem gr_eq (h : Hk) : gr h = (h.2.2.length : Int) - (h.2.1.length : Int) := rfl
theorem rights_low (L : Mx) : ∀ (s low : Int), sepM L low → ∀ x ∈ rightsS s L, low + s ≤ x.1 := by
  induction L with
  | nil => intro s low _ x hx; cases hx
  | cons y r ih =>
    intro s low k x hx
    obtain ⟨t, h⟩ := y
    obtain ⟨k1, k2⟩ := k
    have k1 : low ≤ h.1 := k1
    have k2 : sepM r (hkEnd h + 1) := k2
    have e1 := hkEnd_eq h
    have e2 := gr_eq h
    cases t with
    | true => have := ih (s + gr h) (hkEnd h + 1) k2 x hx; omega
    | false =>
      rcases List.mem_cons.1 hx with rfl | hx
      · show low + s ≤ h.1 + s; omega
      · have := ih s (hkEnd h + 1) k2 x hx; omega
theorem news_low (L : Mx) : ∀ (s low : Int), sepM L low → ∀ x ∈ newsGo (lefts L) s, low + s ≤ x.1 ∧ x.1 ≤ x.2 := by
  induction L with
  | nil => intro s low _ x hx; cases hx
  | cons y r ih =>
    intro s low k x hx
    obtain ⟨t, h⟩ := y
    obtain ⟨k1, k2⟩ := k
    have k1 : low ≤ h.1 := k1
    have k2 : sepM r (hkEnd h + 1) := k2
    have e1 := hkEnd_eq h
    have e2 := gr_eq h
    cases t with
    | true =>
      rcases List.mem_cons.1 hx with rfl | hx
      · exact ⟨show low + s ≤ h.1 + s by omega, show h.1 + s ≤ h.1 + s + (h.2.2.length : Int) by omega⟩
      · have := ih (s + gr h) (hkEnd h + 1) k2 x hx; omega
    | false => have := ih s (hkEnd h + 1) k2 x hx; omega
theorem lefts_low (L : Mx) : ∀ (low : Int), sepM L low → ∀ x ∈ lefts L, low ≤ x.1 := by
  induction L with
  | nil => intro low _ x hx; cases hx
  | cons y r ih =>
    intro low k x hx
    obtain ⟨t, h⟩ := y
    obtain ⟨k1, k2⟩ := k
    have k1 : low ≤ h.1 := k1
    have k2 : sepM r (hkEnd h + 1) := k2
    have e1 := hkEnd_eq h
    cases t with
    | true =>
      rcases List.mem_cons.1 hx with rfl | hx
      · exact k1
      · have := ih (hkEnd h + 1) k2 x hx; omega
    | false => have := ih (hkEnd h + 1) k2 x hx; omega
theorem indep_iff {a b : List Sp} : indepB a b = true ↔ ∀ x ∈ a, ∀ y ∈ b, x.2 < y.1 ∨ y.2 < x.1 := by
  unfold indepB apartB
  simp only [List.all_eq_true, Bool.or_eq_true, decide_eq_true_eq]
theorem mix_indep (L : Mx) : ∀ (s low : Int), sepM L low → ∀ x ∈ newsGo (lefts L) s, ∀ y ∈ oldsOf (rightsS s L), x.2 < y.1 ∨ y.2 < x.1 := by
  induction L with
  | nil => intro s low _ x hx; cases hx
  | cons z r ih =>
    intro s low k x hx y hy
    obtain ⟨t, h⟩ := z
    obtain ⟨k1, k2⟩ := k
    have k1 : low ≤ h.1 := k1
    have k2 : sepM r (hkEnd h + 1) := k2
    have e1 := hkEnd_eq h
    have e2 := gr_eq h
    cases t with
    | true =>
      rcases List.mem_cons.1 hx with rfl | hx
      · left
        obtain ⟨v, hv, rfl⟩ := List.mem_map.1 hy
        have := rights_low r (s + gr h) (hkEnd h + 1) k2 v hv
        show h.1 + s + (h.2.2.length : Int) < v.1
        omega
      · exact ih (s + gr h) (hkEnd h + 1) k2 x hx y hy
    | false =>
      rcases List.mem_cons.1 hy with rfl | hy
      · right
        have := news_low r s (hkEnd h + 1) k2 x hx
        show h.1 + s + (h.2.1.length : Int) < x.1
        omega
      · exact ih s (hkEnd h + 1) k2 x hx y hy
theorem grow_none (b : List Hk) : ∀ (sp : List Sp) (x : Int), (∀ y ∈ sp, x ≤ y.2) → growAt b sp x = 0 := by
  induction b with
  | nil => intro sp x _; rfl
  | cons h r ih =>
    intro sp x k
    cases sp with
    | nil => rfl
    | cons y t =>
      show (if y.2 < x then gr h else 0) + growAt r t x = 0
      rw [if_neg (by have := k y (List.mem_cons_self ..); omega), ih t x (fun z hz => k z (List.mem_cons_of_mem _ hz))]
      rfl
theorem mix_rights (L : Mx) : ∀ (s low : Int), sepM L low → (rightsS s L).map (fun h => (h.1 - (s + growAt (lefts L) (newsGo (lefts L) s) h.1), h.2.1, h.2.2)) = lefts (swp L) := by
  induction L with
  | nil => intro s low _; rfl
  | cons z r ih =>
    intro s low k
    obtain ⟨t, h⟩ := z
    obtain ⟨k1, k2⟩ := k
    have k1 : low ≤ h.1 := k1
    have k2 : sepM r (hkEnd h + 1) := k2
    have e1 := hkEnd_eq h
    have e2 := gr_eq h
    cases t with
    | true =>
      show (rightsS (s + gr h) r).map _ = lefts (swp r)
      rw [← ih (s + gr h) (hkEnd h + 1) k2]
      refine List.map_congr_left (fun x hx => ?_)
      have := rights_low r (s + gr h) (hkEnd h + 1) k2 x hx
      show (x.1 - (s + ((if h.1 + s + (h.2.2.length : Int) < x.1 then gr h else 0) + growAt (lefts r) (newsGo (lefts r) (s + gr h)) x.1)), x.2.1, x.2.2) = _
      rw [if_pos (by omega), Int.add_assoc s (gr h)]
    | false =>
      show (h.1 + s - (s + growAt (lefts r) (newsGo (lefts r) s) (h.1 + s)), h.2.1, h.2.2) :: (rightsS s r).map _ = h :: lefts (swp r)
      rw [grow_none _ _ _ (fun y hy => by have := news_low r s (hkEnd h + 1) k2 y hy; omega), show h.1 + s - (s + 0) = h.1 by omega]
      exact congrArg (List.cons h) (ih s (hkEnd h + 1) k2)
theorem mix_lefts (L : Mx) : ∀ (s low : Int), sepM L low → (lefts L).map (fun g => (g.1 + (s + growAt (lefts (swp L)) (oldsOf (lefts (swp L))) g.1), g.2.1, g.2.2)) = rightsS s (swp L) := by
  induction L with
  | nil => intro s low _; rfl
  | cons z r ih =>
    intro s low k
    obtain ⟨t, h⟩ := z
    obtain ⟨k1, k2⟩ := k
    have k1 : low ≤ h.1 := k1
    have k2 : sepM r (hkEnd h + 1) := k2
    have e1 := hkEnd_eq h
    cases t with
    | true =>
      show (h.1 + (s + growAt (lefts (swp r)) (oldsOf (lefts (swp r))) h.1), h.2.1, h.2.2) :: (lefts r).map _ = (h.1 + s, h.2.1, h.2.2) :: rightsS s (swp r)
      rw [grow_none _ _ _ (fun y hy => by
        obtain ⟨v, hv, rfl⟩ := List.mem_map.1 hy
        have := lefts_low (swp r) (hkEnd h + 1) (sepM_swp r (hkEnd h + 1) k2) v hv
        have := hkEnd_eq v
        show h.1 ≤ hkEnd v
        omega), Int.add_zero]
      exact congrArg (List.cons _) (ih s (hkEnd h + 1) k2)
    | false =>
      show (lefts r).map _ = rightsS (s + gr h) (swp r)
      rw [← ih (s + gr h) (hkEnd h + 1) k2]
      refine List.map_congr_left (fun x hx => ?_)
      have := lefts_low r (hkEnd h + 1) k2 x hx
      show (x.1 + (s + ((if hkEnd h < x.1 then gr h else 0) + growAt (lefts (swp r)) (oldsOf (lefts (swp r))) x.1)), x.2.1, x.2.2) = _
      rw [if_pos (by omega), Int.add_assoc s (gr h)]
/-- Out of the list of both sides: what an exchange answers. -/
theorem comm_mix {L : Mx} {low : Int} (hs : sepM L low) : indepB (newsGo (lefts L) 0) (oldsOf (rightsS 0 L)) = true ∧ commA (lefts L) (rightsS 0 L) = lefts (swp L) ∧ commB (lefts L) (lefts (swp L)) = rightsS 0 (swp L) := by
  refine ⟨indep_iff.2 (mix_indep L 0 low hs), ?_, ?_⟩
  · rw [← mix_rights L 0 low hs]
    unfold commA shiftBy
    refine List.map_congr_left (fun x _ => ?_)
    rw [show x.1 + -1 * growAt (lefts L) (newsGo (lefts L) 0) x.1 = x.1 - (0 + growAt (lefts L) (newsGo (lefts L) 0) x.1) by omega]
  · rw [← mix_lefts L 0 low hs]
    unfold commB shiftBy
    refine List.map_congr_left (fun x _ => ?_)
    rw [show x.1 + 1 * growAt (lefts (swp L)) (oldsOf (lefts (swp L))) x.1 = x.1 + (0 + growAt (lefts (swp L)) (oldsOf (lefts (swp L))) x.1) by omega]
/-! ### inverses -/
end Go.Proofs.Ytdnnkhogpobjbaa.Pre

