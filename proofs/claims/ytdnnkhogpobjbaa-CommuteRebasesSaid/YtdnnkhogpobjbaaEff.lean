/- Exchanged patches have the same effect. -/
import Derived.Test.YtdnnkhogpobjbaaIvt
import Derived.Test.YtdnnkhogpobjbaaCmt
set_option linter.unusedVariables false
namespace Go.Proofs.Ytdnnkhogpobjbaa.Pre
theorem cut_key (S : List ByteArray) {x y z : Int} (h0 : 0 ≤ x) (h1 : x ≤ y) (hz : y ≤ z) : cutOut S x z = cutOut S x y ++ cutOut S y z := by
  unfold cutOut
  rw [show y.toNat = x.toNat + (y.toNat - x.toNat) by omega, ← List.drop_drop, show List.drop x.toNat (List.take (x.toNat + (y.toNat - x.toNat)) S) = List.take (y.toNat - x.toNat) (List.drop x.toNat (List.take z.toNat S)) by
    rw [List.drop_take, List.drop_take, List.take_take]
    congr 1
    omega]
  exact (List.take_append_drop _ _).symm
theorem cut_length (S : List ByteArray) {x y : Int} (h0 : 0 ≤ x) (h1 : x ≤ y) (hy : y ≤ S.length) : ((cutOut S x y).length : Int) = y - x := by
  unfold cutOut
  rw [List.length_drop, List.length_take]
  omega
theorem res_on (S : List ByteArray) (P : List Hk) {x y : Int} (h0 : 0 ≤ x) (h1 : x ≤ y) (hP : ∀ g ∈ P, y ≤ g.1) : resAt S P x = cutOut S x y ++ resAt S P y := by
  cases P with
  | nil =>
    show S.drop x.toNat = cutOut S x y ++ S.drop y.toNat
    unfold cutOut
    rw [show y.toNat = x.toNat + (y.toNat - x.toNat) by omega, ← List.drop_drop, List.drop_take, show x.toNat + (y.toNat - x.toNat) - x.toNat = y.toNat - x.toNat by omega]
    exact (List.take_append_drop _ _).symm
  | cons g r =>
    show cutOut S x g.1 ++ g.2.2 ++ resAt S r (hkEnd g) = cutOut S x y ++ (cutOut S y g.1 ++ g.2.2 ++ resAt S r (hkEnd g))
    rw [cut_key S h0 h1 (hP g (List.mem_cons_self ..))]
    simp only [List.append_assoc]
theorem eff_main (t : List ByteArray) (L : Mx) : ∀ (at_ low s : Int) (pre : List ByteArray), 0 ≤ at_ → at_ ≤ low → at_ ≤ t.length → sepM L low → fitsAt t (lefts L) → (pre.length : Int) = at_ + s →
    (fitsAt (pre ++ resAt t (lefts L) at_) (rightsS s L) ↔ fitsAt t (lefts (swp L))) ∧ (fitsAt t (lefts (swp L)) → resAt (pre ++ resAt t (lefts L) at_) (rightsS s L) (at_ + s) = resAt t (L.map Prod.snd) at_) := by
  induction L with
  | nil =>
    intro at_ low s pre h0 h1 h2 _ _ hp
    refine ⟨Iff.rfl, fun _ => ?_⟩
    show (pre ++ t.drop at_.toNat).drop (at_ + s).toNat = t.drop at_.toNat
    rw [show (at_ + s).toNat = pre.length by omega, List.drop_left]
  | cons z r ih =>
    intro at_ low s pre h0 h1 h2 hs hf hp
    obtain ⟨b, h⟩ := z
    obtain ⟨k1, k2⟩ := hs
    have k1 : low ≤ h.1 := k1
    have k2 : sepM r (hkEnd h + 1) := k2
    have e1 := hkEnd_eq h
    have e2 := gr_eq h
    cases b with
    | true =>
      obtain ⟨⟨f1, f2⟩, hf'⟩ := hf
      have hc := cut_length t h0 (show at_ ≤ h.1 by omega) (show h.1 ≤ t.length by omega)
      have e0 : resAt t (lefts ((true, h) :: r)) at_ = cutOut t at_ h.1 ++ h.2.2 ++ resAt t (lefts r) (hkEnd h) := rfl
      have e3 : pre ++ resAt t (lefts ((true, h) :: r)) at_ = (pre ++ cutOut t at_ h.1 ++ h.2.2) ++ resAt t (lefts r) (hkEnd h) := by rw [e0]; simp only [List.append_assoc]
      have key := ih (hkEnd h) (hkEnd h + 1) (s + gr h) (pre ++ cutOut t at_ h.1 ++ h.2.2) (by omega) (by omega) f1 k2 hf' (by rw [List.length_append, List.length_append]; omega)
      rw [← e3] at key
      refine ⟨key.1, fun hh => ?_⟩
      have k := key.2 hh
      show resAt _ (rightsS (s + gr h) r) (at_ + s) = cutOut t at_ h.1 ++ h.2.2 ++ resAt t (r.map Prod.snd) (hkEnd h)
      rw [res_on _ _ (y := hkEnd h + (s + gr h)) (by omega) (by omega) (fun g hg => by have := rights_low r (s + gr h) (hkEnd h + 1) k2 g hg; omega), k, e3, show pre ++ cutOut t at_ h.1 ++ h.2.2 = pre ++ (cutOut t at_ h.1 ++ h.2.2) by rw [List.append_assoc], cut_mid _ _ _ _ _ hp.symm (by rw [List.length_append]; omega)]
    | false =>
      have hl : ∀ g ∈ lefts r, hkEnd h + 1 ≤ g.1 := lefts_low r (hkEnd h + 1) k2
      by_cases c : hkEnd h ≤ t.length
      · have e0 : resAt t (lefts r) at_ = cutOut t at_ (hkEnd h) ++ resAt t (lefts r) (hkEnd h) := res_on t _ h0 (by omega) (fun g hg => by have := hl g hg; omega)
        have ck := cut_key t h0 (show at_ ≤ h.1 by omega) (show h.1 ≤ hkEnd h by omega)
        have c1 := cut_length t h0 (show at_ ≤ h.1 by omega) (show h.1 ≤ t.length by omega)
        have c2 := cut_length t (show 0 ≤ h.1 by omega) (show h.1 ≤ hkEnd h by omega) c
        have e3 : pre ++ resAt t (lefts r) at_ = (pre ++ cutOut t at_ (hkEnd h)) ++ resAt t (lefts r) (hkEnd h) := by rw [e0, List.append_assoc]
        have key := ih (hkEnd h) (hkEnd h + 1) s (pre ++ cutOut t at_ (hkEnd h)) (by omega) (by omega) c k2 hf (by rw [List.length_append, ck, List.length_append]; omega)
        rw [← e3] at key
        have e4 : pre ++ resAt t (lefts r) at_ = (pre ++ cutOut t at_ h.1) ++ cutOut t h.1 (hkEnd h) ++ resAt t (lefts r) (hkEnd h) := by rw [e3, ck]; simp only [List.append_assoc]
        have m1 : cutOut (pre ++ resAt t (lefts r) at_) (h.1 + s) (hkEnd h + s) = cutOut t h.1 (hkEnd h) := by
          rw [e4]
          exact cut_mid _ _ _ _ _ (by rw [List.length_append]; omega) (by rw [List.length_append]; omega)
        have m2 : cutOut (pre ++ resAt t (lefts r) at_) (at_ + s) (h.1 + s) = cutOut t at_ h.1 := by
          rw [e4, List.append_assoc (pre ++ cutOut t at_ h.1)]
          exact cut_mid _ _ _ _ _ hp.symm (by omega)
        have m3 : hkEnd (h.1 + s, h.2.1, h.2.2) = hkEnd h + s := by
          show h.1 + s + (h.2.1.length : Int) = _
          omega
        have m4 : hkEnd h + s ≤ ((pre ++ resAt t (lefts r) at_).length : Int) := by
          rw [e4, List.length_append, List.length_append, List.length_append]
          omega
        constructor
        · show ((hkEnd (h.1 + s, h.2.1, h.2.2) ≤ ((pre ++ resAt t (lefts r) at_).length : Int) ∧ cutOut (pre ++ resAt t (lefts r) at_) (h.1 + s) (hkEnd (h.1 + s, h.2.1, h.2.2)) = h.2.1) ∧ fitsAt (pre ++ resAt t (lefts r) at_) (rightsS s r)) ↔ ((hkEnd h ≤ t.length ∧ cutOut t h.1 (hkEnd h) = h.2.1) ∧ fitsAt t (lefts (swp r)))
          rw [m3, m1, key.1]
          exact ⟨fun x => ⟨⟨c, x.1.2⟩, x.2⟩, fun x => ⟨⟨m4, x.1.2⟩, x.2⟩⟩
        · intro hh
          have hh' : fitsAt t (lefts (swp r)) := hh.2
          show cutOut (pre ++ resAt t (lefts r) at_) (at_ + s) (h.1 + s) ++ h.2.2 ++ resAt (pre ++ resAt t (lefts r) at_) (rightsS s r) (hkEnd (h.1 + s, h.2.1, h.2.2)) = cutOut t at_ h.1 ++ h.2.2 ++ resAt t (r.map Prod.snd) (hkEnd h)
          rw [m2, m3, key.2 hh']
      · have hn : lefts r = [] := by
          cases hr : lefts r with
          | nil => rfl
          | cons g q =>
            exfalso
            have f : fitsAt t (lefts r) := hf
            rw [hr] at f
            have := hl g (by rw [hr]; exact List.mem_cons_self ..)
            have := f.1.1
            have := hkEnd_eq g
            omega
        constructor
        · constructor
          · intro x
            exfalso
            have x : hkEnd (h.1 + s, h.2.1, h.2.2) ≤ ((pre ++ resAt t (lefts r) at_).length : Int) := x.1.1
            rw [hn] at x
            have x : h.1 + s + (h.2.1.length : Int) ≤ ((pre ++ t.drop at_.toNat).length : Int) := x
            rw [List.length_append, List.length_drop] at x
            omega
          · intro x; exact absurd x.1.1 c
        · intro x; exact absurd x.1.1 c
theorem swp_snd (L : Mx) : (swp L).map Prod.snd = L.map Prod.snd := by
  induction L with
  | nil => rfl
  | cons x r ih => show x.2 :: (swp r).map Prod.snd = x.2 :: r.map Prod.snd; rw [ih]
theorem eff_both {t : List ByteArray} {L : Mx} (hs : sepM L 0) (hp : fitsAt t (lefts L)) (hq : fitsAt (resAt t (lefts L) 0) (rightsS 0 L)) :
    fitsAt t (lefts (swp L)) ∧ fitsAt (resAt t (lefts (swp L)) 0) (rightsS 0 (swp L)) ∧ resAt (resAt t (lefts (swp L)) 0) (rightsS 0 (swp L)) 0 = resAt (resAt t (lefts L) 0) (rightsS 0 L) 0 := by
  have k := eff_main t L 0 0 0 [] (by omega) (by omega) (by omega) hs hp rfl
  rw [List.nil_append] at k
  have ha := k.1.1 hq
  have j := eff_main t (swp L) 0 0 0 [] (by omega) (by omega) (by omega) (sepM_swp L 0 hs) ha rfl
  rw [List.nil_append, swp_swp] at j
  refine ⟨ha, j.1.2 hp, ?_⟩
  have e1 := k.2 ha
  have e2 := j.2 hp
  rw [swp_snd] at e2
  exact e2.trans e1.symm
end Go.Proofs.Ytdnnkhogpobjbaa.Pre

