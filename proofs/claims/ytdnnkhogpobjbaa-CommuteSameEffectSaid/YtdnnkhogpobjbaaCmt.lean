/- Patches that are exchanged, plainly: both are read off one list of hunks of both sides, in the coordinates of the first text. -/
import Derived.Test.YtdnnkhogpobjbaaPch
set_option linter.unusedVariables false
namespace Go.Proofs.Ytdnnkhogpobjbaa.Pre

abbrev Sp := Int × Int
def gr (h : Hk) : Int := (h.2.2.length : Int) - (h.2.1.length : Int)
def oldsOf (p : List Hk) : List Sp := p.map fun h => (h.1, hkEnd h)
def newsGo : List Hk → Int → List Sp
  | [], _ => []
  | h :: r, s => (h.1 + s, h.1 + s + (h.2.2.length : Int)) :: newsGo r (s + gr h)
def apartB (x y : Sp) : Bool := decide (x.2 < y.1) || decide (y.2 < x.1)
def indepB (a b : List Sp) : Bool := a.all fun x => b.all fun y => apartB x y
def growAt : List Hk → List Sp → Int → Int
  | h :: r, s :: t, x => (if s.2 < x then gr h else 0) + growAt r t x
  | _, _, _ => 0
def shiftBy (p : List Hk) (b : List Hk) (sp : List Sp) (sg : Int) : List Hk := p.map fun h => (h.1 + sg * growAt b sp h.1, h.2.1, h.2.2)
def commA (p q : List Hk) : List Hk := shiftBy q p (newsGo p 0) (-1)
def commB (p a : List Hk) : List Hk := shiftBy p a (oldsOf a) 1
def commSpec (p q : List Hk) : List Hk × List Hk × Bool × Int × Int :=
  if patchFault p = (0, 0) then
    (if patchFault q = (0, 0) then
      (if indepB (newsGo p 0) (oldsOf q) = true then
        (if patchFault (commA p q) = (0, 0) then (if patchFault (commB p (commA p q)) = (0, 0) then (commA p q, commB p (commA p q), true, 0, 0) else ([], [], false, 10, -1)) else ([], [], false, 10, -1))
      else ([], [], false, 0, 0))
    else ([], [], false, (patchFault q).1, -2))
  else ([], [], false, patchFault p)

/-! ### hunks of both sides -/
abbrev Mx := List (Bool × Hk)
def lefts : Mx → List Hk
  | [] => []
  | (true, h) :: r => h :: lefts r
  | (false, _) :: r => lefts r
def rightsS : Int → Mx → List Hk
  | _, [] => []
  | s, (true, g) :: r => rightsS (s + gr g) r
  | s, (false, h) :: r => (h.1 + s, h.2.1, h.2.2) :: rightsS s r
def swp : Mx → Mx
  | [] => []
  | (t, h) :: r => (!t, h) :: swp r
def sepM : Mx → Int → Prop
  | [], _ => True
  | x :: r, low => low ≤ x.2.1 ∧ sepM r (hkEnd x.2 + 1)
def sepH : List Hk → Int → Prop
  | [], _ => True
  | h :: r, low => low ≤ h.1 ∧ sepH r (hkEnd h + 1)
theorem sep_ok {p : List Hk} : ∀ {low : Int}, okFrom p low → sepH p low := by
  induction p with
  | nil => intro low _; trivial
  | cons h r ih => intro low k; exact ⟨k.1.2.2.1, ih k.2⟩
theorem sepM_swp (L : Mx) : ∀ low, sepM L low → sepM (swp L) low := by
  induction L with
  | nil => intro low _; trivial
  | cons x r ih => intro low k; exact ⟨k.1, ih _ k.2⟩
theorem swp_swp (L : Mx) : swp (swp L) = L := by
  induction L with
  | nil => rfl
  | cons x r ih =>
    show (!!x.1, x.2) :: swp (swp r) = x :: r
    rw [ih, Bool.not_not]
theorem hkEnd_eq (h : Hk) : hkEnd h = h.1 + (h.2.1.length : Int) := rfl
theorem gr_eq (h : Hk) : gr h = (h.2.2.length : Int) - (h.2.1.length : Int) := rfl
theorem rights_low (L : Mx) : ∀ (s low : Int), sepM L low → ∀ x ∈ rightsS s L, low + s ≤ x.1 := by
  induction L with
  | nil => intro s low _ x hx; cases hx
  | cons y r ih =>
    intro s low k x hx
    obtain ⟨t, h⟩ := y
    obtain ⟨k1, k2⟩ := k
    have k1 : low ≤ h.1 := k1
    have k2 : sepM r (hkEnd h + 1) := k2
    have e1 := hkEnd_eq h
    have e2 := gr_eq h
    cases t with
    | true => have := ih (s + gr h) (hkEnd h + 1) k2 x hx; omega
    | false =>
      rcases List.mem_cons.1 hx with rfl | hx
      · show low + s ≤ h.1 + s; omega
      · have := ih s (hkEnd h + 1) k2 x hx; omega
theorem news_low (L : Mx) : ∀ (s low : Int), sepM L low → ∀ x ∈ newsGo (lefts L) s, low + s ≤ x.1 ∧ x.1 ≤ x.2 := by
  induction L with
  | nil => intro s low _ x hx; cases hx
  | cons y r ih =>
    intro s low k x hx
    obtain ⟨t, h⟩ := y
    obtain ⟨k1, k2⟩ := k
    have k1 : low ≤ h.1 := k1
    have k2 : sepM r (hkEnd h + 1) := k2
    have e1 := hkEnd_eq h
    have e2 := gr_eq h
    cases t with
    | true =>
      rcases List.mem_cons.1 hx with rfl | hx
      · exact ⟨show low + s ≤ h.1 + s by omega, show h.1 + s ≤ h.1 + s + (h.2.2.length : Int) by omega⟩
      · have := ih (s + gr h) (hkEnd h + 1) k2 x hx; omega
    | false => have := ih s (hkEnd h + 1) k2 x hx; omega
theorem lefts_low (L : Mx) : ∀ (low : Int), sepM L low → ∀ x ∈ lefts L, low ≤ x.1 := by
  induction L with
  | nil => intro low _ x hx; cases hx
  | cons y r ih =>
    intro low k x hx
    obtain ⟨t, h⟩ := y
    obtain ⟨k1, k2⟩ := k
    have k1 : low ≤ h.1 := k1
    have k2 : sepM r (hkEnd h + 1) := k2
    have e1 := hkEnd_eq h
    cases t with
    | true =>
      rcases List.mem_cons.1 hx with rfl | hx
      · exact k1
      · have := ih (hkEnd h + 1) k2 x hx; omega
    | false => have := ih (hkEnd h + 1) k2 x hx; omega
theorem indep_iff {a b : List Sp} : indepB a b = true ↔ ∀ x ∈ a, ∀ y ∈ b, x.2 < y.1 ∨ y.2 < x.1 := by
  unfold indepB apartB
  simp only [List.all_eq_true, Bool.or_eq_true, decide_eq_true_eq]
theorem mix_indep (L : Mx) : ∀ (s low : Int), sepM L low → ∀ x ∈ newsGo (lefts L) s, ∀ y ∈ oldsOf (rightsS s L), x.2 < y.1 ∨ y.2 < x.1 := by
  induction L with
  | nil => intro s low _ x hx; cases hx
  | cons z r ih =>
    intro s low k x hx y hy
    obtain ⟨t, h⟩ := z
    obtain ⟨k1, k2⟩ := k
    have k1 : low ≤ h.1 := k1
    have k2 : sepM r (hkEnd h + 1) := k2
    have e1 := hkEnd_eq h
    have e2 := gr_eq h
    cases t with
    | true =>
      rcases List.mem_cons.1 hx with rfl | hx
      · left
        obtain ⟨v, hv, rfl⟩ := List.mem_map.1 hy
        have := rights_low r (s + gr h) (hkEnd h + 1) k2 v hv
        show h.1 + s + (h.2.2.length : Int) < v.1
        omega
      · exact ih (s + gr h) (hkEnd h + 1) k2 x hx y hy
    | false =>
      rcases List.mem_cons.1 hy with rfl | hy
      · right
        have := news_low r s (hkEnd h + 1) k2 x hx
        show h.1 + s + (h.2.1.length : Int) < x.1
        omega
      · exact ih s (hkEnd h + 1) k2 x hx y hy
theorem grow_none (b : List Hk) : ∀ (sp : List Sp) (x : Int), (∀ y ∈ sp, x ≤ y.2) → growAt b sp x = 0 := by
  induction b with
  | nil => intro sp x _; rfl
  | cons h r ih =>
    intro sp x k
    cases sp with
    | nil => rfl
    | cons y t =>
      show (if y.2 < x then gr h else 0) + growAt r t x = 0
      rw [if_neg (by have := k y (List.mem_cons_self ..); omega), ih t x (fun z hz => k z (List.mem_cons_of_mem _ hz))]
      rfl
theorem mix_rights (L : Mx) : ∀ (s low : Int), sepM L low → (rightsS s L).map (fun h => (h.1 - (s + growAt (lefts L) (newsGo (lefts L) s) h.1), h.2.1, h.2.2)) = lefts (swp L) := by
  induction L with
  | nil => intro s low _; rfl
  | cons z r ih =>
    intro s low k
    obtain ⟨t, h⟩ := z
    obtain ⟨k1, k2⟩ := k
    have k1 : low ≤ h.1 := k1
    have k2 : sepM r (hkEnd h + 1) := k2
    have e1 := hkEnd_eq h
    have e2 := gr_eq h
    cases t with
    | true =>
      show (rightsS (s + gr h) r).map _ = lefts (swp r)
      rw [← ih (s + gr h) (hkEnd h + 1) k2]
      refine List.map_congr_left (fun x hx => ?_)
      have := rights_low r (s + gr h) (hkEnd h + 1) k2 x hx
      show (x.1 - (s + ((if h.1 + s + (h.2.2.length : Int) < x.1 then gr h else 0) + growAt (lefts r) (newsGo (lefts r) (s + gr h)) x.1)), x.2.1, x.2.2) = _
      rw [if_pos (by omega), Int.add_assoc s (gr h)]
    | false =>
      show (h.1 + s - (s + growAt (lefts r) (newsGo (lefts r) s) (h.1 + s)), h.2.1, h.2.2) :: (rightsS s r).map _ = h :: lefts (swp r)
      rw [grow_none _ _ _ (fun y hy => by have := news_low r s (hkEnd h + 1) k2 y hy; omega), show h.1 + s - (s + 0) = h.1 by omega]
      exact congrArg (List.cons h) (ih s (hkEnd h + 1) k2)
theorem mix_lefts (L : Mx) : ∀ (s low : Int), sepM L low → (lefts L).map (fun g => (g.1 + (s + growAt (lefts (swp L)) (oldsOf (lefts (swp L))) g.1), g.2.1, g.2.2)) = rightsS s (swp L) := by
  induction L with
  | nil => intro s low _; rfl
  | cons z r ih =>
    intro s low k
    obtain ⟨t, h⟩ := z
    obtain ⟨k1, k2⟩ := k
    have k1 : low ≤ h.1 := k1
    have k2 : sepM r (hkEnd h + 1) := k2
    have e1 := hkEnd_eq h
    cases t with
    | true =>
      show (h.1 + (s + growAt (lefts (swp r)) (oldsOf (lefts (swp r))) h.1), h.2.1, h.2.2) :: (lefts r).map _ = (h.1 + s, h.2.1, h.2.2) :: rightsS s (swp r)
      rw [grow_none _ _ _ (fun y hy => by
        obtain ⟨v, hv, rfl⟩ := List.mem_map.1 hy
        have := lefts_low (swp r) (hkEnd h + 1) (sepM_swp r (hkEnd h + 1) k2) v hv
        have := hkEnd_eq v
        show h.1 ≤ hkEnd v
        omega), Int.add_zero]
      exact congrArg (List.cons _) (ih s (hkEnd h + 1) k2)
    | false =>
      show (lefts r).map _ = rightsS (s + gr h) (swp r)
      rw [← ih (s + gr h) (hkEnd h + 1) k2]
      refine List.map_congr_left (fun x hx => ?_)
      have := lefts_low r (hkEnd h + 1) k2 x hx
      show (x.1 + (s + ((if hkEnd h < x.1 then gr h else 0) + growAt (lefts (swp r)) (oldsOf (lefts (swp r))) x.1)), x.2.1, x.2.2) = _
      rw [if_pos (by omega), Int.add_assoc s (gr h)]
theorem mix_ex (n : Nat) : ∀ (p q : List Hk) (s low : Int), p.length + q.length = n → sepH p low → sepH q (low + s) → (∀ x ∈ newsGo p s, ∀ y ∈ oldsOf q, x.2 < y.1 ∨ y.2 < x.1) → ∃ L, sepM L low ∧ lefts L = p ∧ rightsS s L = q := by
  induction n with
  | zero =>
    intro p q s low hn _ _ _
    obtain rfl := List.eq_nil_of_length_eq_zero (show p.length = 0 by omega)
    obtain rfl := List.eq_nil_of_length_eq_zero (show q.length = 0 by omega)
    exact ⟨[], trivial, rfl, rfl⟩
  | succ n ih =>
    intro p q s low hn hp hq hi
    have step : ∀ (h : Hk) (q' : List Hk), q = h :: q' → sepH p (hkEnd h - s + 1) → ∃ L, sepM L low ∧ lefts L = p ∧ rightsS s L = q := by
      intro h q' e hp'
      subst e
      obtain ⟨L, l1, l2, l3⟩ := ih p q' s (hkEnd h - s + 1) (by rw [List.length_cons] at hn; omega) hp' (by have := hq.2; rw [show hkEnd h - s + 1 + s = hkEnd h + 1 by omega]; exact this) (fun x hx y hy => hi x hx y (List.mem_cons_of_mem _ hy))
      refine ⟨(false, (h.1 - s, h.2.1, h.2.2)) :: L, ⟨?_, ?_⟩, l2, ?_⟩
      · have := hq.1; show low ≤ h.1 - s; omega
      · rw [show hkEnd (h.1 - s, h.2.1, h.2.2) + 1 = hkEnd h - s + 1 by have := hkEnd_eq h; show h.1 - s + (h.2.1.length : Int) + 1 = _; omega]; exact l1
      · show (h.1 - s + s, h.2.1, h.2.2) :: rightsS s L = h :: q'
        rw [l3, show h.1 - s + s = h.1 by omega]
    have stepL : ∀ (g : Hk) (p' : List Hk), p = g :: p' → sepH q (hkEnd g + 1 + (s + gr g)) → ∃ L, sepM L low ∧ lefts L = p ∧ rightsS s L = q := by
      intro g p' e hq'
      subst e
      obtain ⟨L, l1, l2, l3⟩ := ih p' q (s + gr g) (hkEnd g + 1) (by rw [List.length_cons] at hn; omega) hp.2 hq' (fun x hx y hy => hi x (List.mem_cons_of_mem _ hx) y hy)
      exact ⟨(true, g) :: L, ⟨hp.1, l1⟩, congrArg (List.cons g) l2, l3⟩
    cases p with
    | nil =>
      cases q with
      | nil => simp at hn
      | cons h q' => exact step h q' rfl trivial
    | cons g p' =>
      cases q with
      | nil => exact stepL g p' rfl trivial
      | cons h q' =>
        have e1 := hkEnd_eq g
        have e2 := gr_eq g
        rcases hi (g.1 + s, g.1 + s + (g.2.2.length : Int)) (List.mem_cons_self ..) (h.1, hkEnd h) (List.mem_cons_self ..) with c | c
        · have c : g.1 + s + (g.2.2.length : Int) < h.1 := c
          exact stepL g p' rfl ⟨by omega, hq.2⟩
        · have c : hkEnd h < g.1 + s := c
          exact step h q' rfl ⟨by omega, hp.2⟩
/-- Out of the list of both sides: what an exchange answers. -/
theorem comm_mix {L : Mx} {low : Int} (hs : sepM L low) : indepB (newsGo (lefts L) 0) (oldsOf (rightsS 0 L)) = true ∧ commA (lefts L) (rightsS 0 L) = lefts (swp L) ∧ commB (lefts L) (lefts (swp L)) = rightsS 0 (swp L) := by
  refine ⟨indep_iff.2 (mix_indep L 0 low hs), ?_, ?_⟩
  · rw [← mix_rights L 0 low hs]
    unfold commA shiftBy
    refine List.map_congr_left (fun x _ => ?_)
    rw [show x.1 + -1 * growAt (lefts L) (newsGo (lefts L) 0) x.1 = x.1 - (0 + growAt (lefts L) (newsGo (lefts L) 0) x.1) by omega]
  · rw [← mix_lefts L 0 low hs]
    unfold commB shiftBy
    refine List.map_congr_left (fun x _ => ?_)
    rw [show x.1 + 1 * growAt (lefts (swp L)) (oldsOf (lefts (swp L))) x.1 = x.1 + (0 + growAt (lefts (swp L)) (oldsOf (lefts (swp L))) x.1) by omega]
theorem comm_yes {p q : List Hk} (h : (commSpec p q).2.2.1 = true) : ∃ L : Mx, sepM L 0 ∧ p = lefts L ∧ q = rightsS 0 L ∧ patchFault p = (0, 0) ∧ patchFault q = (0, 0) ∧ patchFault (lefts (swp L)) = (0, 0) ∧ patchFault (rightsS 0 (swp L)) = (0, 0) ∧ commSpec p q = (lefts (swp L), rightsS 0 (swp L), true, 0, 0) := by
  unfold commSpec at h ⊢
  by_cases z1 : patchFault p = (0, 0)
  · rw [if_pos z1] at h ⊢
    by_cases z2 : patchFault q = (0, 0)
    · rw [if_pos z2] at h ⊢
      by_cases z3 : indepB (newsGo p 0) (oldsOf q) = true
      · rw [if_pos z3] at h ⊢
        obtain ⟨L, hs, rfl, rfl⟩ := mix_ex _ p q 0 0 rfl (sep_ok (patchFault_ok.1 z1).2) (sep_ok (patchFault_ok.1 z2).2) (indep_iff.1 z3)
        obtain ⟨_, c2, c3⟩ := comm_mix hs
        rw [c2, c3] at h ⊢
        by_cases z4 : patchFault (lefts (swp L)) = (0, 0)
        · rw [if_pos z4] at h ⊢
          by_cases z5 : patchFault (rightsS 0 (swp L)) = (0, 0)
          · rw [if_pos z5]
            exact ⟨L, hs, rfl, rfl, z1, z2, z4, z5, rfl⟩
          · rw [if_neg z5] at h; cases h
        · rw [if_neg z4] at h; cases h
      · rw [if_neg z3] at h; cases h
    · rw [if_neg z2] at h; cases h
  · rw [if_neg z1] at h; cases h
theorem comm_go {L : Mx} {low : Int} (hs : sepM L low) (h1 : patchFault (lefts L) = (0, 0)) (h2 : patchFault (rightsS 0 L) = (0, 0)) (h3 : patchFault (lefts (swp L)) = (0, 0)) (h4 : patchFault (rightsS 0 (swp L)) = (0, 0)) : commSpec (lefts L) (rightsS 0 L) = (lefts (swp L), rightsS 0 (swp L), true, 0, 0) := by
  obtain ⟨c1, c2, c3⟩ := comm_mix hs
  unfold commSpec
  rw [if_pos h1, if_pos h2, if_pos c1, c2, c3, if_pos h3, if_pos h4]
theorem comm_twice {p q : List Hk} (h : (commSpec p q).2.2.1 = true) : commSpec (commSpec p q).1 (commSpec p q).2.1 = (p, q, true, 0, 0) := by
  obtain ⟨L, hs, rfl, rfl, z1, z2, z3, z4, e⟩ := comm_yes h
  rw [e]
  have := comm_go (sepM_swp L 0 hs) z3 z4 (by rw [swp_swp]; exact z1) (by rw [swp_swp]; exact z2)
  rw [swp_swp] at this
  exact this
/-! ### inverses -/
def invM : Int → Mx → Mx
  | _, [] => []
  | s, (t, h) :: r => (!t, (h.1 + s, h.2.2, h.2.1)) :: invM (s + gr h) r
def invH : List Hk → Int → List Hk
  | [], _ => []
  | h :: r, s => (h.1 + s, h.2.2, h.2.1) :: invH r (s + gr h)
theorem invM_sep (L : Mx) : ∀ (s low : Int), sepM L low → sepM (invM s L) (low + s) := by
  induction L with
  | nil => intro s low _; trivial
  | cons x r ih =>
    intro s low k
    obtain ⟨t, h⟩ := x
    obtain ⟨k1, k2⟩ := k
    have k1 : low ≤ h.1 := k1
    have k2 : sepM r (hkEnd h + 1) := k2
    have e1 := hkEnd_eq h
    have e2 := gr_eq h
    refine ⟨show low + s ≤ h.1 + s by omega, ?_⟩
    have := ih (s + gr h) (hkEnd h + 1) k2
    rw [show hkEnd h + 1 + (s + gr h) = hkEnd (h.1 + s, h.2.2, h.2.1) + 1 by
      rw [show hkEnd (h.1 + s, h.2.2, h.2.1) = h.1 + s + (h.2.2.length : Int) from rfl]
      omega] at this
    exact this
/-- s, r: by how much both sides have grown ahead. -/
theorem invM_lefts (L : Mx) : ∀ s r : Int, lefts (invM (s + r) L) = invH (rightsS s L) r := by
  induction L with
  | nil => intro s r; rfl
  | cons x q ih =>
    intro s r
    obtain ⟨t, h⟩ := x
    cases t with
    | true =>
      show lefts (invM (s + r + gr h) q) = invH (rightsS (s + gr h) q) r
      rw [← ih, show s + r + gr h = s + gr h + r by omega]
    | false =>
      show (h.1 + (s + r), h.2.2, h.2.1) :: lefts (invM (s + r + gr h) q) = (h.1 + s + r, h.2.2, h.2.1) :: invH (rightsS s q) (r + gr h)
      rw [← ih, show s + r + gr h = s + (r + gr h) by omega, show h.1 + (s + r) = h.1 + s + r by omega]
theorem invM_rights (L : Mx) : ∀ s r : Int, rightsS (-r) (invM (s + r) L) = invH (lefts L) s := by
  induction L with
  | nil => intro s r; rfl
  | cons x q ih =>
    intro s r
    obtain ⟨t, h⟩ := x
    have e : gr (h.1 + (s + r), h.2.2, h.2.1) = - gr h := by
      rw [gr_eq, gr_eq]
      show ((h.2.1.length : Int) - (h.2.2.length : Int)) = _
      omega
    cases t with
    | true =>
      show (h.1 + (s + r) + -r, h.2.2, h.2.1) :: rightsS (-r) (invM (s + r + gr h) q) = (h.1 + s, h.2.2, h.2.1) :: invH (lefts q) (s + gr h)
      rw [← ih (s + gr h) r, show s + r + gr h = s + gr h + r by omega, show h.1 + (s + r) + -r = h.1 + s by omega]
    | false =>
      show rightsS (-r + gr (h.1 + (s + r), h.2.2, h.2.1)) (invM (s + r + gr h) q) = invH (lefts q) s
      rw [e, ← ih s (r + gr h), show s + r + gr h = s + (r + gr h) by omega, show -r + -gr h = -(r + gr h) by omega]
theorem invM_swp (L : Mx) : ∀ s : Int, swp (invM s L) = invM s (swp L) := by
  induction L with
  | nil => intro s; rfl
  | cons x q ih =>
    intro s
    obtain ⟨t, h⟩ := x
    show (!!t, (h.1 + s, h.2.2, h.2.1)) :: swp (invM (s + gr h) q) = (!!t, (h.1 + s, h.2.2, h.2.1)) :: invM (s + gr h) (swp q)
    rw [ih]
/-- The inverses in reverse order can be exchanged, and what comes out are the inverses of the exchanged ones. -/
theorem comm_inverse {p q : List Hk} (h : (commSpec p q).2.2.1 = true) (hp : patchFault (invH p 0) = (0, 0)) (hq : patchFault (invH q 0) = (0, 0)) (ha : patchFault (invH (commSpec p q).1 0) = (0, 0)) (hb : patchFault (invH (commSpec p q).2.1 0) = (0, 0)) :
    commSpec (invH q 0) (invH p 0) = (invH (commSpec p q).2.1 0, invH (commSpec p q).1 0, true, 0, 0) := by
  obtain ⟨L, hs, rfl, rfl, z1, z2, z3, z4, e⟩ := comm_yes h
  rw [e] at ha hb ⊢
  have l1 := invM_lefts L 0 0
  have l2 := invM_rights L 0 0
  have l3 := invM_lefts (swp L) 0 0
  have l4 := invM_rights (swp L) 0 0
  rw [Int.add_zero] at l1 l2 l3 l4
  rw [Int.neg_zero] at l2 l4
  have hs' := invM_sep L 0 0 hs
  have g := comm_go hs' (by rw [l1]; exact hq) (by rw [l2]; exact hp) (by rw [invM_swp, l3]; exact hb) (by rw [invM_swp, l4]; exact ha)
  rw [l1, l2, invM_swp, l3, l4] at g
  exact g
end Go.Proofs.Ytdnnkhogpobjbaa.Pre
