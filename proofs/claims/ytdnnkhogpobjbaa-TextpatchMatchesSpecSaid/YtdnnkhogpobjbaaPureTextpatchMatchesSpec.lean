/- For all arguments, Validate, Apply and Invert return the specified results. -/
import Derived.Test.YtdnnkhogpobjbaaPM9
import Derived.Test.YtdnnkhogpobjbaaIvt
namespace Go.Proofs.Ytdnnkhogpobjbaa.Pure
open Go.RowKit Go.Proofs.Ytdnnkhogpobjbaa.PM Go.Proofs.Ytdnnkhogpobjbaa.Pre Go.Proofs.YtdnnkhogpobjbaaW.PrintWords Go.Proofs.YtdnnkhogpobjbaaW.PrintLast

theorem tp_map (p : List Hk) : ((p.map (fun h_ : Hk => (⟨h_.1, h_.2.1, h_.2.2⟩ : S47))).map (fun x_ : S47 => ((x_.f0, x_.f1, x_.f2) : Hk))) = p := by
  rw [List.map_map]
  exact List.map_id' p
theorem tp_pam (p : List S47) : ((p.map (fun x_ : S47 => ((x_.f0, x_.f1, x_.f2) : Hk))).map (fun h_ : Hk => (⟨h_.1, h_.2.1, h_.2.2⟩ : S47))) = p := by
  rw [List.map_map]
  exact List.map_id' p
def tp_res (q : List S47) : List S47 × Int × Int := if patchFault (q.map (fun x_ : S47 => ((x_.f0, x_.f1, x_.f2) : Hk))) = (0, 0) then (q, 0, 0) else ([], 10, -1)
theorem tp_fit (q : List S47) : textpatch_Fit.f q = some (tp_res q) := by
  unfold textpatch_Fit.f tp_res
  simp only [textpatch_Validate.f, Option.bind_some, fault_ne (patchFault_or (q.map (fun x_ : S47 => ((x_.f0, x_.f1, x_.f2) : Hk)))), decide_eq_true_iff]
  by_cases z : patchFault (q.map (fun x_ : S47 => ((x_.f0, x_.f1, x_.f2) : Hk))) = (0, 0)
  · rw [if_neg (by simpa using z), if_pos z]
  · rw [if_pos (by simpa using z), if_neg z]
theorem tp_loop (xs : List S47) (hl : xs.length ≤ 130) (hx : ∀ x ∈ xs, x.f1.length ≤ 120 ∧ x.f2.length ≤ 120 ∧ 0 ≤ x.f0 ∧ x.f0 ≤ 120) (d : Nat) : ∀ (k i : Nat) (s : Int) (out : List S47), i ≤ xs.length → xs.length - i = d → d < k →
    -(120 * (i : Int)) ≤ s → s ≤ 120 * (i : Int) → out.length = i → textpatch_Invert.l0 k s xs (xs.length : Int) (i : Int) out = some (tp_res (out ++ (invGo ((xs.drop i).map (fun x_ : S47 => ((x_.f0, x_.f1, x_.f2) : Hk))) s).map (fun h_ : Hk => (⟨h_.1, h_.2.1, h_.2.2⟩ : S47)))) := by
  induction d with
  | zero =>
    intro k i s out hi hd hk h0 h1 ho
    obtain ⟨k, rfl⟩ : ∃ m, k = m + 1 := ⟨k - 1, by omega⟩
    simp only [textpatch_Invert.l0]
    rw [if_neg (by omega), tp_fit, show xs.drop i = [] from List.drop_eq_nil_of_le (by omega)]
    simp only [List.map_nil, invGo, List.append_nil, Option.bind_some]
  | succ d ih =>
    intro k i s out hi hd hk h0 h1 ho
    obtain ⟨k, rfl⟩ : ∃ m, k = m + 1 := ⟨k - 1, by omega⟩
    have hm : rd_T47 xs (i : Int) ∈ xs := by
      have e : xs.drop i = rd_T47 xs (i : Int) :: xs.drop (i + 1) := rdOf_drop z47 xs i (by omega)
      exact List.mem_of_mem_drop (show rd_T47 xs (i : Int) ∈ xs.drop i by rw [e]; exact List.mem_cons_self ..)
    have hdr : xs.drop i = rd_T47 xs (i : Int) :: xs.drop (i + 1) := rdOf_drop z47 xs i (by omega)
    obtain ⟨b1, b2, b3, b4⟩ := hx _ hm
    rw [hdr, List.map_cons]
    simp only [textpatch_Invert.l0, slices_Clone_string_string.f]
    generalize rd_T47 xs (i : Int) = h at *
    rw [if_pos (by omega), if_pos (by omega), if_pos (by omega), if_pos (show h.f2.length ≤ 8796093022208 by omega)]
    simp only [Option.bind_some]
    rw [if_pos (show h.f1.length ≤ 8796093022208 by omega)]
    simp only [Option.bind_some]
    rw [if_pos (by omega), w64 (n := (i : Int) + 1) (by omega) (by omega), w64 (n := (h.f2.length : Int) - h.f1.length) (by omega) (by omega), w64 (n := s + ((h.f2.length : Int) - h.f1.length)) (by omega) (by omega), w64 (n := h.f0 + s) (by omega) (by omega)]
    have := ih k (i + 1) (s + ((h.f2.length : Int) - h.f1.length)) (out ++ [⟨h.f0 + s, h.f2, h.f1⟩]) (by omega) (by omega) (by omega) (by omega) (by omega) (by rw [List.length_append, ho]; rfl)
    rw [show ((i + 1 : Nat) : Int) = (i : Int) + 1 by omega] at this
    rw [this, invGo, List.map_cons, List.append_assoc]
    rfl
theorem tp_invert (k : Nat) (hk : 131 ≤ k) (xs : List S47) : textpatch_Invert.f k xs = some ((invSpec (xs.map (fun x_ : S47 => ((x_.f0, x_.f1, x_.f2) : Hk)))).1.map (fun h_ : Hk => (⟨h_.1, h_.2.1, h_.2.2⟩ : S47)), (invSpec (xs.map (fun x_ : S47 => ((x_.f0, x_.f1, x_.f2) : Hk)))).2) := by
  unfold textpatch_Invert.f invSpec
  simp only [textpatch_Validate.f, Option.bind_some, fault_ne (patchFault_or (xs.map (fun x_ : S47 => ((x_.f0, x_.f1, x_.f2) : Hk)))), decide_eq_true_iff]
  by_cases z : patchFault (xs.map (fun x_ : S47 => ((x_.f0, x_.f1, x_.f2) : Hk))) = (0, 0)
  · rw [if_neg (by simpa using z), if_pos z]
    obtain ⟨z1, z2⟩ := patchFault_ok.1 z
    rw [List.length_map] at z1
    have hx : ∀ x ∈ xs, x.f1.length ≤ 120 ∧ x.f2.length ≤ 120 ∧ 0 ≤ x.f0 ∧ x.f0 ≤ 120 := by
      intro x hx
      have := okFrom_all z2 ((fun x_ : S47 => ((x_.f0, x_.f1, x_.f2) : Hk)) x) (List.mem_map_of_mem hx)
      exact this
    have := tp_loop xs z1 hx xs.length k 0 0 [] (by omega) (by omega) (by omega) (by omega) (by omega) rfl
    rw [List.drop_zero, List.nil_append] at this
    refine this.trans ?_
    unfold tp_res
    rw [tp_map]
    by_cases c : patchFault (invGo (xs.map (fun x_ : S47 => ((x_.f0, x_.f1, x_.f2) : Hk))) 0) = (0, 0)
    · rw [if_pos c, if_pos c]
    · rw [if_neg c, if_neg c]; rfl
  · rw [if_pos (by simpa using z), if_neg z]; rfl
theorem tp_same_loop (xs : List S47) (hm : xs.length ≤ 9223372036854775807) (d : Nat) : ∀ (k i : Nat), i ≤ xs.length → xs.length - i = d → 2 * d < k → changeforgeequal_Patch.l0 k (i : Int) xs xs = some true := by
  induction d with
  | zero =>
    intro k i hi hd hk
    obtain ⟨k, rfl⟩ : ∃ m, k = m + 1 := ⟨k - 1, by omega⟩
    simp only [changeforgeequal_Patch.l0]
    rw [if_neg (by omega)]
  | succ d ih =>
    intro k i hi hd hk
    obtain ⟨k, rfl⟩ : ∃ m, k = m + 2 := ⟨k - 2, by omega⟩
    simp only [changeforgeequal_Patch.l0, changeforgeequal_Patch.j1, changeforgeequal_Strings.f, Option.bind_some]
    rw [if_pos (by omega), if_pos (by omega), if_pos (by omega), if_pos trivial, if_pos (by simp), if_neg (by simp), w64 (by omega) (by omega)]
    have := ih k (i + 1) (by omega) (by omega) (by omega)
    rw [show ((i + 1 : Nat) : Int) = (i : Int) + 1 by omega] at this
    exact this
theorem tp_same (k : Nat) (xs : List S47) (h : 2 * xs.length < k) (hm : xs.length ≤ 9223372036854775807) : changeforgeequal_Patch.f k xs xs = some true := by
  unfold changeforgeequal_Patch.f
  rw [if_pos rfl]
  exact tp_same_loop xs hm xs.length k 0 (by omega) (by omega) h
theorem tp_rep1 : applySpec [((1 : Int), [(⟨#[98]⟩ : ByteArray)], [(⟨#[99]⟩ : ByteArray), ⟨#[100]⟩])] [(⟨#[97]⟩ : ByteArray), ⟨#[98]⟩] = ([⟨#[97]⟩, ⟨#[99]⟩, ⟨#[100]⟩], 0, 0) := (apply_good (p := [((1 : Int), [(⟨#[98]⟩ : ByteArray)], [(⟨#[99]⟩ : ByteArray), ⟨#[100]⟩])]) (t := [(⟨#[97]⟩ : ByteArray), ⟨#[98]⟩]) (by decide +kernel) (by decide +kernel) ⟨⟨by decide +kernel, rfl⟩, trivial⟩ (by decide +kernel)).trans rfl
theorem tp_rep2 : invSpec [((1 : Int), [(⟨#[98]⟩ : ByteArray)], [(⟨#[99]⟩ : ByteArray), ⟨#[100]⟩])] = ([((1 : Int), [(⟨#[99]⟩ : ByteArray), ⟨#[100]⟩], [(⟨#[98]⟩ : ByteArray)])], 0, 0) := (inv_good (p := [((1 : Int), [(⟨#[98]⟩ : ByteArray)], [(⟨#[99]⟩ : ByteArray), ⟨#[100]⟩])]) (by decide +kernel) (by decide +kernel)).trans rfl
theorem tp_replaced (k : Nat) (hk : 131 ≤ k) : changeforgelaw1_replaced.f k = some true := by
  unfold changeforgelaw1_replaced.f
  simp only [changeforgelaw1_hunk.f, Option.bind_some, textpatch_Apply.f, tp_invert k hk, List.map_cons, List.map_nil, tp_rep1, tp_rep2, changeforgeequal_Strings.f, decide_true, if_true]
  rw [tp_same k _ (by simp; omega) (by simp)]
  rfl
/-! ### the reference -/
theorem rp_loop (xs : List S47) (hl : xs.length ≤ 130) (d : Nat) : ∀ (k i : Nat) (low : Int), i ≤ xs.length → xs.length - i = d → 3 * d < k →
    (i = 0 ∧ low = 0) ∨ (0 < i ∧ low = (rd_T47 xs ((i : Int) - 1)).f0 + ((rd_T47 xs ((i : Int) - 1)).f1.length : Int) + 1 ∧ 0 ≤ (rd_T47 xs ((i : Int) - 1)).f0 ∧ (rd_T47 xs ((i : Int) - 1)).f0 ≤ 120 ∧ (rd_T47 xs ((i : Int) - 1)).f1.length ≤ 120) →
    changeforgeref1_PatchFault.l0 k (i : Int) xs = some (pvGo ((xs.drop i).map (fun x_ : S47 => ((x_.f0, x_.f1, x_.f2) : Hk))) low (i : Int)) := by
  induction d with
  | zero =>
    intro k i low hi hd hk _
    obtain ⟨k, rfl⟩ : ∃ m, k = m + 1 := ⟨k - 1, by omega⟩
    simp only [changeforgeref1_PatchFault.l0]
    rw [if_neg (by omega), show xs.drop i = [] from List.drop_eq_nil_of_le (by omega)]
    rfl
  | succ d ih =>
    intro k i low hi hd hk hp
    obtain ⟨k, rfl⟩ : ∃ m, k = m + 3 := ⟨k - 3, by omega⟩
    have hdr : xs.drop i = rd_T47 xs (i : Int) :: xs.drop (i + 1) := rdOf_drop z47 xs i (by omega)
    rw [hdr, List.map_cons]
    have hn := ih k (i + 1) ((rd_T47 xs (i : Int)).f0 + ((rd_T47 xs (i : Int)).f1.length : Int) + 1) (by omega) (by omega) (by omega)
    rw [show (((i + 1 : Nat) : Int) - 1) = (i : Int) by omega, show ((i + 1 : Nat) : Int) = (i : Int) + 1 by omega] at hn
    have hw : wrap64 ((i : Int) + 1) = (i : Int) + 1 := w64 (by omega) (by omega)
    have hj : ∀ b : Bool, b = decide ((rd_T47 xs (i : Int)).f0 < 0 ∨ 120 < (rd_T47 xs (i : Int)).f0) → changeforgeref1_PatchFault.j1 (k + 2) (i : Int) b xs (rd_T47 xs (i : Int)).f0 (rd_T47 xs (i : Int)).f1 (rd_T47 xs (i : Int)).f2 = some (pvGo (((rd_T47 xs (i : Int)).f0, (rd_T47 xs (i : Int)).f1, (rd_T47 xs (i : Int)).f2) :: (xs.drop (i + 1)).map (fun x_ : S47 => ((x_.f0, x_.f1, x_.f2) : Hk))) low (i : Int)) := by
      intro b hb
      subst hb
      unfold pvGo hkCode
      simp only [changeforgeref1_PatchFault.j1, changeforgeref1_At.f, changeforgeref1_LinesCode.f, Option.bind_some, decide_eq_true_iff]
      generalize hx : rd_T47 xs (i : Int) = h at *
      by_cases c1 : h.f0 < 0 ∨ 120 < h.f0
      · rw [if_pos c1, if_pos c1, if_neg (by decide)]
      · rw [if_neg c1, if_neg c1]
        by_cases c2 : (linesFault h.f1).1 = 0
        · rw [if_pos c2, if_pos c2]
          by_cases c3 : (linesFault h.f2).1 = 0
          · rw [if_pos c3, if_pos c3]
            have l1 := (linesFault_ok.1 (linesFault_zero c2)).1
            have l2 := (linesFault_ok.1 (linesFault_zero c3)).1
            have hj2 : ∀ b : Bool, b = decide ((h.f1 = [] ∧ h.f2 = []) ∨ h.f0 < low) → changeforgeref1_PatchFault.j2 (k + 1) (i : Int) b xs h.f0 h.f1 h.f2 = some (if (if (h.f1 = [] ∧ h.f2 = []) ∨ h.f0 < low then (5 : Int) else if 120 < hkEnd ((h.f0, h.f1, h.f2) : Hk) then 3 else 0) = 0 then pvGo ((xs.drop (i + 1)).map (fun x_ : S47 => ((x_.f0, x_.f1, x_.f2) : Hk))) (hkEnd ((h.f0, h.f1, h.f2) : Hk) + 1) ((i : Int) + 1) else ((if (h.f1 = [] ∧ h.f2 = []) ∨ h.f0 < low then (5 : Int) else if 120 < hkEnd ((h.f0, h.f1, h.f2) : Hk) then 3 else 0), (i : Int))) := by
              intro b hb
              subst hb
              simp only [changeforgeref1_PatchFault.j2, changeforgeref1_At.f, changeforgeref1_End.f, Option.bind_some, decide_eq_true_iff]
              by_cases c4 : (h.f1 = [] ∧ h.f2 = []) ∨ h.f0 < low
              · rw [if_pos c4, if_pos c4, if_neg (by decide)]
              · rw [if_neg c4, if_neg c4, w64 (n := h.f0 + (h.f1.length : Int)) (by omega) (by omega), show hkEnd ((h.f0, h.f1, h.f2) : Hk) = h.f0 + (h.f1.length : Int) from rfl]
                by_cases c5 : 120 < h.f0 + (h.f1.length : Int)
                · rw [if_pos c5, if_pos c5, if_neg (by decide)]
                · rw [if_neg c5, if_neg c5, if_pos rfl, hw, hn (.inr ⟨by omega, rfl, by omega, by omega, l1⟩)]
            rw [w64 (n := (h.f1.length : Int) + (h.f2.length : Int)) (by omega) (by omega)]
            by_cases e : (h.f1.length : Int) + (h.f2.length : Int) = 0
            · rw [if_pos e]
              exact hj2 true (by symm; rw [decide_eq_true_iff]; exact .inl ⟨List.eq_nil_of_length_eq_zero (by omega), List.eq_nil_of_length_eq_zero (by omega)⟩)
            · rw [if_neg e]
              have e' : ¬ (h.f1 = [] ∧ h.f2 = []) := by rintro ⟨a, b⟩; rw [a, b] at e; exact e rfl
              rcases hp with ⟨p0, p1⟩ | ⟨p0, p1, p2, p3, p4⟩
              · rw [if_neg (by omega)]
                refine hj2 false ?_
                symm
                rw [decide_eq_false_iff_not]
                rintro (a | a)
                · exact e' a
                · omega
              · rw [w64 (n := (i : Int) - 1) (by omega) (by omega), if_pos (by omega), if_pos (by omega), if_pos (by omega)]
                simp only [changeforgeref1_End.f, Option.bind_some]
                rw [w64 (by omega) (by omega)]
                refine hj2 _ ?_
                rw [decide_eq_decide]
                constructor
                · intro a; right; omega
                · rintro (a | a)
                  · exact absurd a e'
                  · omega
          · rw [if_neg c3, if_neg c3, if_neg c3]
        · rw [if_neg c2, if_neg c2, if_neg c2]
    simp only [changeforgeref1_PatchFault.l0]
    rw [if_pos (by omega), if_pos (by omega)]
    by_cases c : (rd_T47 xs (i : Int)).f0 < 0
    · rw [if_pos c]
      exact hj true (by symm; rw [decide_eq_true_iff]; exact .inl c)
    · rw [if_neg c]
      refine hj _ ?_
      rw [decide_eq_decide]
      omega
theorem rp_fault (k : Nat) (hk : 400 ≤ k) (xs : List S47) : changeforgeref1_PatchFault.f k xs = some (patchFault (xs.map (fun x_ : S47 => ((x_.f0, x_.f1, x_.f2) : Hk)))) := by
  unfold changeforgeref1_PatchFault.f patchFault
  simp only [changeforgeref1_At.f, Option.bind_some, List.length_map]
  by_cases c : 130 < xs.length
  · rw [if_pos (by omega), if_pos c]
  · rw [if_neg (by omega), if_neg c]
    have := rp_loop xs (by omega) xs.length k 0 0 (by omega) (by omega) (by omega) (.inl ⟨rfl, rfl⟩)
    rw [List.drop_zero] at this
    exact this
theorem rp_fits (k : Nat) (hk : 400 ≤ k) (q : List S47) : changeforgeref1_fits.f k q = some (tp_res q) := by
  unfold changeforgeref1_fits.f tp_res
  rw [rp_fault k hk]
  simp only [Option.bind_some, changeforgeref1_At.f]
  rcases patchFault_or (q.map (fun x_ : S47 => ((x_.f0, x_.f1, x_.f2) : Hk))) with z | z
  · rw [if_pos (by rw [z]), if_pos z]
  · rw [if_neg z, if_neg (fun e => z (by rw [e]))]
def rp_sum : List Hk → Int
  | [] => 0
  | h :: r => ((h.2.2.length : Int) - (h.2.1.length : Int)) + rp_sum r
theorem rp_sum_snoc (p : List Hk) (h : Hk) : rp_sum (p ++ [h]) = rp_sum p + ((h.2.2.length : Int) - (h.2.1.length : Int)) := by
  induction p with
  | nil => simp [rp_sum]
  | cons a r ih => simp only [List.cons_append, rp_sum, ih]; omega
/-! ### Invert -/
theorem ri_in (xs : List S47) (hl : xs.length ≤ 130) (hx : ∀ x ∈ xs, x.f1.length ≤ 120 ∧ x.f2.length ≤ 120 ∧ 0 ≤ x.f0 ∧ x.f0 ≤ 120) (i : Nat) (hi : i < xs.length) (out : List S47) (ho : out.length = i) (d : Nat) : ∀ (k j : Nat) (at_ : Int), j ≤ i → i - j = d →
    -(1000 + 120 * (j : Int)) ≤ at_ → at_ ≤ 1000 + 120 * (j : Int) → changeforgeref1_Invert.l1 (k + d + 1) (i : Int) at_ (j : Int) xs out = changeforgeref1_Invert.l0 k ((i : Int) + 1) xs (out ++ [⟨at_ + (rp_sum ((xs.take i).map (fun x_ : S47 => ((x_.f0, x_.f1, x_.f2) : Hk))) - rp_sum ((xs.take j).map (fun x_ : S47 => ((x_.f0, x_.f1, x_.f2) : Hk)))), (rd_T47 xs (i : Int)).f2, (rd_T47 xs (i : Int)).f1⟩]) := by
  induction d with
  | zero =>
    intro k j at_ hj hd h0 h1
    obtain rfl : j = i := by omega
    simp only [changeforgeref1_Invert.l1]
    rw [if_neg (by omega), if_pos (by omega), if_pos (by omega), if_pos (by omega), w64 (by omega) (by omega), show at_ + (rp_sum ((xs.take j).map (fun x_ : S47 => ((x_.f0, x_.f1, x_.f2) : Hk))) - rp_sum ((xs.take j).map (fun x_ : S47 => ((x_.f0, x_.f1, x_.f2) : Hk)))) = at_ by omega]
  | succ d ih =>
    intro k j at_ hj hd h0 h1
    have hm : rd_T47 xs (j : Int) ∈ xs := by
      have e : xs.drop j = rd_T47 xs (j : Int) :: xs.drop (j + 1) := rdOf_drop z47 xs j (by omega)
      exact List.mem_of_mem_drop (show rd_T47 xs (j : Int) ∈ xs.drop j by rw [e]; exact List.mem_cons_self ..)
    obtain ⟨b1, b2, b3, b4⟩ := hx _ hm
    have ht : (xs.take (j + 1)).map (fun x_ : S47 => ((x_.f0, x_.f1, x_.f2) : Hk)) = (xs.take j).map (fun x_ : S47 => ((x_.f0, x_.f1, x_.f2) : Hk)) ++ [((rd_T47 xs (j : Int)).f0, (rd_T47 xs (j : Int)).f1, (rd_T47 xs (j : Int)).f2)] := by
      have e : rd_T47 xs (j : Int) = xs[j] := rdOf_at z47 xs j (by omega)
      rw [List.take_succ_eq_append_getElem (by omega), List.map_append, e]
      rfl
    have := ih k (j + 1) (at_ + (((rd_T47 xs (j : Int)).f2.length : Int) - ((rd_T47 xs (j : Int)).f1.length : Int))) (by omega) (by omega) (by omega) (by omega)
    rw [ht, rp_sum_snoc] at this
    simp only [] at this
    rw [show k + (d + 1) + 1 = (k + d + 1) + 1 by omega, changeforgeref1_Invert.l1, if_pos (by omega), if_pos (by omega), if_pos (by omega), changeforgeref1_Growth.f, Option.bind_some, w64 (n := (j : Int) + 1) (by omega) (by omega), w64 (n := ((rd_T47 xs (j : Int)).f2.length : Int) - ((rd_T47 xs (j : Int)).f1.length : Int)) (by omega) (by omega), w64 (by omega) (by omega)]
    rw [show ((j + 1 : Nat) : Int) = (j : Int) + 1 by omega] at this
    have e2 : ∀ (g si sj : Int), at_ + g + (si - (sj + g)) = at_ + (si - sj) := by intros; omega
    rw [this, e2]
theorem ri_out (xs : List S47) (hl : xs.length ≤ 130) (hx : ∀ x ∈ xs, x.f1.length ≤ 120 ∧ x.f2.length ≤ 120 ∧ 0 ≤ x.f0 ∧ x.f0 ≤ 120) (d : Nat) : ∀ (k i : Nat) (out : List S47), i ≤ xs.length → xs.length - i = d → d * 200 + 401 ≤ k → out.length = i →
    changeforgeref1_Invert.l0 k (i : Int) xs out = some (tp_res (out ++ (invGo ((xs.drop i).map (fun x_ : S47 => ((x_.f0, x_.f1, x_.f2) : Hk))) (rp_sum ((xs.take i).map (fun x_ : S47 => ((x_.f0, x_.f1, x_.f2) : Hk))))).map (fun h_ : Hk => (⟨h_.1, h_.2.1, h_.2.2⟩ : S47)))) := by
  induction d with
  | zero =>
    intro k i out hi hd hk ho
    obtain ⟨k, rfl⟩ : ∃ m, k = m + 1 := ⟨k - 1, by omega⟩
    simp only [changeforgeref1_Invert.l0]
    rw [if_neg (by omega), show xs.drop i = [] from List.drop_eq_nil_of_le (by omega)]
    simp only [List.map_nil, invGo, List.append_nil]
    rw [rp_fits k (by omega), Option.bind_some]
  | succ d ih =>
    intro k i out hi hd hk ho
    obtain ⟨k, rfl⟩ : ∃ m, k = (m + i + 1) + 1 := ⟨k - i - 2, by omega⟩
    have hm : rd_T47 xs (i : Int) ∈ xs := by
      have e : xs.drop i = rd_T47 xs (i : Int) :: xs.drop (i + 1) := rdOf_drop z47 xs i (by omega)
      exact List.mem_of_mem_drop (show rd_T47 xs (i : Int) ∈ xs.drop i by rw [e]; exact List.mem_cons_self ..)
    have hdr : xs.drop i = rd_T47 xs (i : Int) :: xs.drop (i + 1) := rdOf_drop z47 xs i (by omega)
    obtain ⟨b1, b2, b3, b4⟩ := hx _ hm
    have ht : (xs.take (i + 1)).map (fun x_ : S47 => ((x_.f0, x_.f1, x_.f2) : Hk)) = (xs.take i).map (fun x_ : S47 => ((x_.f0, x_.f1, x_.f2) : Hk)) ++ [((rd_T47 xs (i : Int)).f0, (rd_T47 xs (i : Int)).f1, (rd_T47 xs (i : Int)).f2)] := by
      have e : rd_T47 xs (i : Int) = xs[i] := rdOf_at z47 xs i (by omega)
      rw [List.take_succ_eq_append_getElem (by omega), List.map_append, e]
      rfl
    rw [changeforgeref1_Invert.l0, if_pos (by omega), if_pos (by omega)]
    have h1 := ri_in xs hl hx i (by omega) out ho i k 0 (rd_T47 xs (i : Int)).f0 (by omega) (by omega) (by omega) (by omega)
    rw [show ((0 : Nat) : Int) = 0 from rfl] at h1
    rw [h1]
    have h2 := ih k (i + 1) (out ++ [⟨(rd_T47 xs (i : Int)).f0 + (rp_sum ((xs.take i).map (fun x_ : S47 => ((x_.f0, x_.f1, x_.f2) : Hk))) - rp_sum ((xs.take 0).map (fun x_ : S47 => ((x_.f0, x_.f1, x_.f2) : Hk)))), (rd_T47 xs (i : Int)).f2, (rd_T47 xs (i : Int)).f1⟩]) (by omega) (by omega) (by omega) (by rw [List.length_append, ho]; rfl)
    rw [show ((i + 1 : Nat) : Int) = (i : Int) + 1 by omega] at h2
    rw [h2, hdr, List.map_cons, invGo, ht, rp_sum_snoc, List.map_cons, List.append_assoc]
    simp only [List.take_zero, List.map_nil, rp_sum, Int.sub_zero, List.cons_append, List.nil_append]
theorem rp_invert (k : Nat) (hk : 30000 ≤ k) (xs : List S47) : changeforgeref1_Invert.f k xs = some ((invSpec (xs.map (fun x_ : S47 => ((x_.f0, x_.f1, x_.f2) : Hk)))).1.map (fun h_ : Hk => (⟨h_.1, h_.2.1, h_.2.2⟩ : S47)), (invSpec (xs.map (fun x_ : S47 => ((x_.f0, x_.f1, x_.f2) : Hk)))).2) := by
  unfold changeforgeref1_Invert.f invSpec
  rw [rp_fault k (by omega)]
  simp only [Option.bind_some]
  rcases patchFault_or (xs.map (fun x_ : S47 => ((x_.f0, x_.f1, x_.f2) : Hk))) with z | z
  · rw [if_pos (by rw [z]), if_pos z]
    obtain ⟨z1, z2⟩ := patchFault_ok.1 z
    rw [List.length_map] at z1
    have hx : ∀ x ∈ xs, x.f1.length ≤ 120 ∧ x.f2.length ≤ 120 ∧ 0 ≤ x.f0 ∧ x.f0 ≤ 120 := by
      intro x hx
      have := okFrom_all z2 _ (List.mem_map_of_mem hx)
      exact this
    have := ri_out xs z1 hx xs.length k 0 [] (by omega) (by omega) (by omega) rfl
    rw [List.drop_zero, List.nil_append] at this
    refine this.trans ?_
    rw [show rp_sum ((xs.take 0).map (fun x_ : S47 => ((x_.f0, x_.f1, x_.f2) : Hk))) = 0 from rfl]
    unfold tp_res
    rw [tp_map]
    by_cases c : patchFault (invGo (xs.map (fun x_ : S47 => ((x_.f0, x_.f1, x_.f2) : Hk))) 0) = (0, 0)
    · rw [if_pos c, if_pos c]
    · rw [if_neg c, if_neg c]; rfl
  · rw [if_neg z, if_neg (fun e => z (by rw [e]))]; rfl

/-! ### Apply -/
theorem re_loop (a b : List ByteArray) (hab : a.length = b.length) (hm : a.length ≤ 9223372036854775806) (d : Nat) : ∀ (k i : Nat), i ≤ a.length → a.length - i = d → d < k → changeforgeref1_Equal.l0 k a b (i : Int) = some (decide (a.drop i = b.drop i)) := by
  induction d with
  | zero =>
    intro k i hi hd hk
    obtain ⟨k, rfl⟩ : ∃ m, k = m + 1 := ⟨k - 1, by omega⟩
    simp only [changeforgeref1_Equal.l0]
    rw [if_neg (by omega), List.drop_eq_nil_of_le (by omega), List.drop_eq_nil_of_le (by omega)]
    simp
  | succ d ih =>
    intro k i hi hd hk
    obtain ⟨k, rfl⟩ : ∃ m, k = m + 1 := ⟨k - 1, by omega⟩
    simp only [changeforgeref1_Equal.l0]
    rw [if_pos (by omega), if_pos (by omega), if_pos (by omega), rdOf_drop ByteArray.empty a i (by omega), rdOf_drop ByteArray.empty b i (by omega)]
    by_cases e : rdOf ByteArray.empty a (i : Int) = rdOf ByteArray.empty b (i : Int)
    · rw [if_pos (toList_inj.mpr e), w64 (by omega) (by omega), e]
      have := ih k (i + 1) (by omega) (by omega) (by omega)
      rw [show ((i + 1 : Nat) : Int) = (i : Int) + 1 by omega] at this
      rw [this]
      simp
    · rw [if_neg (fun h => e (toList_inj.mp h))]
      simp [e]
theorem re_f (k : Nat) (a b : List ByteArray) (hm : a.length ≤ 9223372036854775806) (hk : a.length < k) : changeforgeref1_Equal.f k a b = some (decide (a = b)) := by
  unfold changeforgeref1_Equal.f
  by_cases c : a.length = b.length
  · rw [if_pos (by omega)]
    exact re_loop a b c hm a.length k 0 (by omega) (by omega) hk
  · rw [if_neg (by omega), decide_eq_false (fun e => c (by rw [e]))]
theorem rh_f (k : Nat) (hk : 200 ≤ k) (t : List ByteArray) (ht : t.length ≤ 120) (h : Hk) (h0 : 0 ≤ h.1) (h1 : h.1 ≤ 120) (h2 : h.2.1.length ≤ 120) : changeforgeref1_has.f k t h.1 h.2.1 = some (decide (hkEnd h ≤ t.length ∧ cutOut t h.1 (hkEnd h) = h.2.1)) := by
  unfold changeforgeref1_has.f
  rw [w64 (by omega) (by omega), if_neg (by omega)]
  have e : h.1 + (h.2.1.length : Int) = hkEnd h := rfl
  by_cases c : hkEnd h ≤ t.length
  · rw [e, if_neg (by omega), if_pos (by omega), if_pos (by omega), if_pos (by omega), re_f k _ _ (by rw [List.length_drop, List.length_take]; omega) (by rw [List.length_drop, List.length_take]; omega), Option.bind_some]
    refine congrArg some ?_
    rw [decide_eq_decide]
    exact ⟨fun x => ⟨c, x⟩, fun x => x.2⟩
  · rw [e, if_pos (by omega), decide_eq_false (fun x => c x.1)]
def backAt (t : List ByteArray) : List Hk → List ByteArray
  | [] => t
  | h :: r => (backAt t r).take h.1.toNat ++ h.2.2 ++ (backAt t r).drop (hkEnd h).toNat
theorem back_len (t : List ByteArray) (p : List Hk) : ∀ low, okFrom p low → (backAt t p).length ≤ t.length + 120 * p.length := by
  induction p with
  | nil => intro low _; show t.length ≤ _; omega
  | cons h r ih =>
    intro low hok
    obtain ⟨⟨o1, o2, o3, o4, o5, o6, o7⟩, hok'⟩ := hok
    have := ih _ hok'
    have l2 := (linesFault_ok.1 o5).1
    have he : hkEnd h = h.1 + (h.2.1.length : Int) := rfl
    show ((backAt t r).take h.1.toNat ++ h.2.2 ++ (backAt t r).drop (hkEnd h).toNat).length ≤ _
    rw [List.length_append, List.length_append, List.length_take, List.length_drop, List.length_cons]
    omega
theorem back_main (t : List ByteArray) (p : List Hk) : ∀ (low at_ : Int), okFrom p low → fitsAt t p → 0 ≤ at_ → at_ ≤ low → at_ ≤ t.length → backAt t p = t.take at_.toNat ++ resAt t p at_ := by
  induction p with
  | nil => intro low at_ _ _ _ _ _; exact (List.take_append_drop _ _).symm
  | cons h r ih =>
    intro low at_ hok hf h0 h1 h2
    obtain ⟨⟨o1, o2, o3, o4, o5, o6, o7⟩, hok'⟩ := hok
    obtain ⟨⟨f1, f2⟩, hf'⟩ := hf
    have he : hkEnd h = h.1 + (h.2.1.length : Int) := rfl
    have hU := ih (hkEnd h + 1) (hkEnd h) hok' hf' (by omega) (by omega) f1
    show (backAt t r).take h.1.toNat ++ h.2.2 ++ (backAt t r).drop (hkEnd h).toNat = t.take at_.toNat ++ (cutOut t at_ h.1 ++ h.2.2 ++ resAt t r (hkEnd h))
    have e1 : (backAt t r).take h.1.toNat = t.take h.1.toNat := by
      rw [hU, List.take_append_of_le_length (by rw [List.length_take]; omega), List.take_take, show min h.1.toNat (hkEnd h).toNat = h.1.toNat by omega]
    have e2 : (backAt t r).drop (hkEnd h).toNat = resAt t r (hkEnd h) := by
      rw [hU]
      exact List.drop_left' (by rw [List.length_take]; omega)
    have e3 : t.take at_.toNat ++ cutOut t at_ h.1 = t.take h.1.toNat := by
      unfold cutOut
      have := List.take_append_drop at_.toNat (t.take h.1.toNat)
      rw [List.take_take, show min at_.toNat h.1.toNat = at_.toNat by omega] at this
      exact this
    rw [e1, e2, ← List.append_assoc, ← List.append_assoc, e3]
theorem ok_at (p : List Hk) : ∀ (low : Int) (j : Nat) (h : Hk) (r : List Hk), okFrom p low → p.drop j = h :: r → ∃ low', okHk h low' ∧ okFrom r (hkEnd h + 1) := by
  induction p with
  | nil => intro low j h r _ e; simp at e
  | cons a q ih =>
    intro low j h r hok e
    cases j with
    | zero =>
      rw [List.drop_zero] at e
      injection e with e1 e2
      subst e1
      subst e2
      exact ⟨low, hok.1, hok.2⟩
    | succ j => exact ih _ j h r hok.2 (by simpa using e)
theorem fits_at (t : List ByteArray) (p : List Hk) : ∀ (j : Nat) (h : Hk) (r : List Hk), fitsAt t p → p.drop j = h :: r → (hkEnd h ≤ t.length ∧ cutOut t h.1 (hkEnd h) = h.2.1) ∧ fitsAt t r := by
  induction p with
  | nil => intro j h r _ e; simp at e
  | cons a q ih =>
    intro j h r hf e
    cases j with
    | zero =>
      rw [List.drop_zero] at e
      injection e with e1 e2
      subst e1
      subst e2
      exact hf
    | succ j => exact ih j h r hf.2 (by simpa using e)
theorem hk_drop (xs : List S47) (j : Nat) (hj : j < xs.length) : (xs.map (fun x_ : S47 => ((x_.f0, x_.f1, x_.f2) : Hk))).drop j = ((rd_T47 xs (j : Int)).f0, (rd_T47 xs (j : Int)).f1, (rd_T47 xs (j : Int)).f2) :: (xs.drop (j + 1)).map (fun x_ : S47 => ((x_.f0, x_.f1, x_.f2) : Hk)) := by
  have e : xs.drop j = rd_T47 xs (j : Int) :: xs.drop (j + 1) := rdOf_drop z47 xs j hj
  rw [← List.map_drop, e, List.map_cons]
theorem ra_back (xs : List S47) (hl : xs.length ≤ 130) (t : List ByteArray) (ht : t.length ≤ 120) (hok : okFrom (xs.map (fun x_ : S47 => ((x_.f0, x_.f1, x_.f2) : Hk))) 0) (hf : fitsAt t (xs.map (fun x_ : S47 => ((x_.f0, x_.f1, x_.f2) : Hk)))) (j : Nat) : ∀ (k : Nat) (x : Int), j ≤ xs.length → j < k → x = (j : Int) - 1 →
    changeforgeref1_Apply.l1 k (backAt t ((xs.drop j).map (fun x_ : S47 => ((x_.f0, x_.f1, x_.f2) : Hk)))) x xs = if 120 < (backAt t (xs.map (fun x_ : S47 => ((x_.f0, x_.f1, x_.f2) : Hk)))).length then some ([], 10, -1) else some (backAt t (xs.map (fun x_ : S47 => ((x_.f0, x_.f1, x_.f2) : Hk))), 0, 0) := by
  induction j with
  | zero =>
    intro k x hj hk hx
    obtain ⟨k, rfl⟩ : ∃ m, k = m + 1 := ⟨k - 1, by omega⟩
    simp only [changeforgeref1_Apply.l1, changeforgeref1_At.f, Option.bind_some]
    rw [if_neg (by omega), List.drop_zero]
    by_cases c : 120 < (backAt t (xs.map (fun x_ : S47 => ((x_.f0, x_.f1, x_.f2) : Hk)))).length
    · rw [if_pos (by omega), if_pos c]
    · rw [if_neg (by omega), if_neg c]
  | succ j ih =>
    intro k x hj hk hx
    obtain ⟨k, rfl⟩ : ∃ m, k = m + 1 := ⟨k - 1, by omega⟩
    obtain rfl : x = (j : Int) := by omega
    have hd := hk_drop xs j (by omega)
    obtain ⟨low', ⟨o1, o2, o3, o4, o5, o6, o7⟩, hok'⟩ := ok_at _ 0 j _ _ hok hd
    obtain ⟨⟨f1, f2⟩, hf'⟩ := fits_at t _ j _ _ hf hd
    have hb := back_len t _ _ hok'
    have hlen : ((xs.drop (j + 1)).map (fun x_ : S47 => ((x_.f0, x_.f1, x_.f2) : Hk))).length ≤ 130 := by rw [List.length_map, List.length_drop]; omega
    have hU := back_main t _ _ (hkEnd ((rd_T47 xs (j : Int)).f0, (rd_T47 xs (j : Int)).f1, (rd_T47 xs (j : Int)).f2)) hok' hf' (by have : hkEnd ((rd_T47 xs (j : Int)).f0, (rd_T47 xs (j : Int)).f1, (rd_T47 xs (j : Int)).f2) = (rd_T47 xs (j : Int)).f0 + ((rd_T47 xs (j : Int)).f1.length : Int) := rfl; have : 0 ≤ (rd_T47 xs (j : Int)).f0 := o1; omega) (by omega) f1
    have hge : (hkEnd ((rd_T47 xs (j : Int)).f0, (rd_T47 xs (j : Int)).f1, (rd_T47 xs (j : Int)).f2)).toNat ≤ (backAt t ((xs.drop (j + 1)).map (fun x_ : S47 => ((x_.f0, x_.f1, x_.f2) : Hk)))).length := by
      rw [hU, List.length_append, List.length_take]
      omega
    have he : hkEnd ((rd_T47 xs (j : Int)).f0, (rd_T47 xs (j : Int)).f1, (rd_T47 xs (j : Int)).f2) = (rd_T47 xs (j : Int)).f0 + ((rd_T47 xs (j : Int)).f1.length : Int) := rfl
    have l1 : (rd_T47 xs (j : Int)).f1.length ≤ 120 := (linesFault_ok.1 o4).1
    have l2 : (rd_T47 xs (j : Int)).f2.length ≤ 120 := (linesFault_ok.1 o5).1
    have a0 : 0 ≤ (rd_T47 xs (j : Int)).f0 := o1
    have a1 : (rd_T47 xs (j : Int)).f0 ≤ 120 := o2
    have hn := ih k ((j : Int) - 1) (by omega) (by omega) rfl
    rw [show (xs.drop j).map (fun x_ : S47 => ((x_.f0, x_.f1, x_.f2) : Hk)) = ((rd_T47 xs (j : Int)).f0, (rd_T47 xs (j : Int)).f1, (rd_T47 xs (j : Int)).f2) :: (xs.drop (j + 1)).map (fun x_ : S47 => ((x_.f0, x_.f1, x_.f2) : Hk)) by rw [← hd, List.map_drop]] at hn
    rw [← hn, backAt]
    generalize backAt t ((xs.drop (j + 1)).map (fun x_ : S47 => ((x_.f0, x_.f1, x_.f2) : Hk))) = U at *
    simp only [changeforgeref1_Apply.l1, changeforgeref1_End.f, Option.bind_some]
    rw [if_pos (by omega), if_pos (by omega), if_pos (by omega), w64 (n := (rd_T47 xs (j : Int)).f0 + ((rd_T47 xs (j : Int)).f1.length : Int)) (by omega) (by omega), if_pos (by omega), if_pos (by omega)]
    rw [if_pos (by rw [List.length_drop, List.length_nil]; omega), if_pos (by omega), if_pos (by omega), if_pos (by rw [List.length_take]; omega), if_pos (by rw [List.length_append, List.length_take, List.length_append, List.length_drop, List.length_nil]; omega), w64 (by omega) (by omega), List.nil_append, ← he]
theorem ra_yes (xs : List S47) (hl : xs.length ≤ 130) (t : List ByteArray) (ht : t.length ≤ 120) (hok : okFrom (xs.map (fun x_ : S47 => ((x_.f0, x_.f1, x_.f2) : Hk))) 0) (hf : fitsAt t (xs.map (fun x_ : S47 => ((x_.f0, x_.f1, x_.f2) : Hk)))) (d : Nat) : ∀ (k i : Nat), i ≤ xs.length → xs.length - i = d → d + 400 ≤ k →
    changeforgeref1_Apply.l0 k t (i : Int) xs = if 120 < (backAt t (xs.map (fun x_ : S47 => ((x_.f0, x_.f1, x_.f2) : Hk)))).length then some ([], 10, -1) else some (backAt t (xs.map (fun x_ : S47 => ((x_.f0, x_.f1, x_.f2) : Hk))), 0, 0) := by
  induction d with
  | zero =>
    intro k i hi hd hk
    obtain ⟨k, rfl⟩ : ∃ m, k = m + 1 := ⟨k - 1, by omega⟩
    obtain rfl : i = xs.length := by omega
    simp only [changeforgeref1_Apply.l0, Option.bind_some]
    rw [if_neg (by omega), if_pos (by rw [List.length_nil]; omega), List.nil_append, w64 (by omega) (by omega)]
    have := ra_back xs hl t ht hok hf xs.length k ((xs.length : Int) - 1) (by omega) (by omega) rfl
    rw [List.drop_length] at this
    exact this
  | succ d ih =>
    intro k i hi hd hk
    obtain ⟨k, rfl⟩ : ∃ m, k = m + 1 := ⟨k - 1, by omega⟩
    have hd' := hk_drop xs i (by omega)
    obtain ⟨low', ⟨o1, o2, o3, o4, o5, o6, o7⟩, hok'⟩ := ok_at _ 0 i _ _ hok hd'
    obtain ⟨hfi, hf'⟩ := fits_at t _ i _ _ hf hd'
    have hh := rh_f k (by omega) t ht _ o1 o2 (linesFault_ok.1 o4).1
    simp only [changeforgeref1_Apply.l0]
    rw [if_pos (by omega), if_pos (by omega), hh, Option.bind_some, if_pos (decide_eq_true hfi), w64 (by omega) (by omega)]
    have := ih k (i + 1) (by omega) (by omega) (by omega)
    rw [show ((i + 1 : Nat) : Int) = (i : Int) + 1 by omega] at this
    exact this
theorem ra_no (xs : List S47) (hl : xs.length ≤ 130) (t : List ByteArray) (ht : t.length ≤ 120) (hok : okFrom (xs.map (fun x_ : S47 => ((x_.f0, x_.f1, x_.f2) : Hk))) 0) (d : Nat) : ∀ (k i : Nat) (at_ : Int) (out : List ByteArray), i ≤ xs.length → xs.length - i = d → d + 400 ≤ k → ¬ fitsAt t ((xs.map (fun x_ : S47 => ((x_.f0, x_.f1, x_.f2) : Hk))).drop i) →
    changeforgeref1_Apply.l0 k t (i : Int) xs = some (apGo t ((xs.map (fun x_ : S47 => ((x_.f0, x_.f1, x_.f2) : Hk))).drop i) at_ (i : Int) out) := by
  induction d with
  | zero =>
    intro k i at_ out hi hd hk hf
    refine absurd ?_ hf
    rw [List.drop_eq_nil_of_le (by rw [List.length_map]; omega)]
    trivial
  | succ d ih =>
    intro k i at_ out hi hd hk hf
    obtain ⟨k, rfl⟩ : ∃ m, k = m + 1 := ⟨k - 1, by omega⟩
    have hd' := hk_drop xs i (by omega)
    obtain ⟨low', ⟨o1, o2, o3, o4, o5, o6, o7⟩, hok'⟩ := ok_at _ 0 i _ _ hok hd'
    have hh := rh_f k (by omega) t ht _ o1 o2 (linesFault_ok.1 o4).1
    rw [hd'] at hf ⊢
    simp only [changeforgeref1_Apply.l0, changeforgeref1_At.f]
    rw [if_pos (by omega), if_pos (by omega), hh, Option.bind_some, apGo]
    by_cases c : hkEnd ((rd_T47 xs (i : Int)).f0, (rd_T47 xs (i : Int)).f1, (rd_T47 xs (i : Int)).f2) ≤ t.length ∧ cutOut t (rd_T47 xs (i : Int)).f0 (hkEnd ((rd_T47 xs (i : Int)).f0, (rd_T47 xs (i : Int)).f1, (rd_T47 xs (i : Int)).f2)) = (rd_T47 xs (i : Int)).f1
    · rw [if_pos (decide_eq_true c), if_pos c, w64 (by omega) (by omega)]
      have := ih k (i + 1) (hkEnd ((rd_T47 xs (i : Int)).f0, (rd_T47 xs (i : Int)).f1, (rd_T47 xs (i : Int)).f2)) (out ++ cutOut t at_ (rd_T47 xs (i : Int)).f0 ++ (rd_T47 xs (i : Int)).f2) (by omega) (by omega) (by omega) (by rw [← List.map_drop]; exact fun x => hf ⟨c, x⟩)
      rw [show ((i + 1 : Nat) : Int) = (i : Int) + 1 by omega, ← List.map_drop] at this
      exact this
    · rw [if_neg (by simpa using c), if_neg c]
      rfl
theorem ra_f (k : Nat) (hk : 30000 ≤ k) (xs : List S47) (t : List ByteArray) : changeforgeref1_Apply.f k xs t = some (applySpec (xs.map (fun x_ : S47 => ((x_.f0, x_.f1, x_.f2) : Hk))) t) := by
  unfold changeforgeref1_Apply.f applySpec
  rw [rp_fault k (by omega)]
  simp only [Option.bind_some, changeforgeref1_LinesCode.f, changeforgeref1_At.f]
  rcases patchFault_or (xs.map (fun x_ : S47 => ((x_.f0, x_.f1, x_.f2) : Hk))) with z | z
  · rw [if_pos (by rw [z]), if_pos z]
    by_cases c : (linesFault t).1 = 0
    · rw [if_pos c, if_pos c]
      obtain ⟨z1, z2⟩ := patchFault_ok.1 z
      rw [List.length_map] at z1
      have ht := (linesFault_ok.1 (linesFault_zero c)).1
      by_cases f : fitsAt t (xs.map (fun x_ : S47 => ((x_.f0, x_.f1, x_.f2) : Hk)))
      · have := ra_yes xs z1 t ht z2 f xs.length k 0 (by omega) (by omega) (by omega)
        have hU := back_main t _ 0 0 z2 f (by omega) (by omega) (by omega)
        rw [show (0 : Int).toNat = 0 from rfl, List.take_zero, List.nil_append] at hU
        rw [hU] at this
        refine this.trans ?_
        rw [apGo_fits t _ 0 0 [] f, List.nil_append]
        by_cases q : 120 < (resAt t (xs.map (fun x_ : S47 => ((x_.f0, x_.f1, x_.f2) : Hk))) 0).length
        · rw [if_pos q, if_pos q]
        · rw [if_neg q, if_neg q]
      · have := ra_no xs z1 t ht z2 xs.length k 0 0 [] (by omega) (by omega) (by omega) (by rw [List.drop_zero]; exact f)
        rw [List.drop_zero] at this
        exact this
    · rw [if_neg c, if_neg c]
  · rw [if_neg z, if_neg (fun e => z (by rw [e]))]
theorem inv_short (p : List Hk) : (invSpec p).1.length ≤ 130 := by
  unfold invSpec
  rcases patchFault_or p with z | z
  · rw [if_pos z]
    by_cases c : patchFault (invGo p 0) = (0, 0)
    · rw [if_pos c]
      exact (patchFault_ok.1 c).1
    · rw [if_neg c]; simp
  · rw [if_neg (fun e => z (by rw [e]))]; simp
theorem TextpatchMatchesSpec : changeforgelaw1_TextpatchMatchesSpec.Pure := by
  intro l0 l1 h0 _ h1 _ _
  refine ⟨30000, ?_⟩
  unfold changeforgelaw1_TextpatchMatchesSpec.f
  have hs := inv_short (l0.map (fun x_ : S47 => ((x_.f0, x_.f1, x_.f2) : Hk)))
  simp only [textpatch_Apply.f, textpatch_Validate.f, ra_f 30000 (by omega), tp_invert 30000 (by omega), rp_invert 30000 (by omega), rp_fault 30000 (by omega), Option.bind_some, changeforgeequal_Strings.f, tp_replaced 30000 (by omega)]
  rw [tp_same 30000 _ (by rw [List.length_map]; omega) (by rw [List.length_map]; omega)]
  simp
end Go.Proofs.Ytdnnkhogpobjbaa.Pure
