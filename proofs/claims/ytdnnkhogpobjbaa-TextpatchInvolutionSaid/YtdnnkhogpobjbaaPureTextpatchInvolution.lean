/- Inverting a patch twice restores it. -/
import Derived.Test.YtdnnkhogpobjbaaPI9
import Derived.Test.YtdnnkhogpobjbaaIvt
namespace Go.Proofs.Ytdnnkhogpobjbaa.Pure
open Go.RowKit Go.Proofs.Ytdnnkhogpobjbaa.PI Go.Proofs.Ytdnnkhogpobjbaa.Pre Go.Proofs.YtdnnkhogpobjbaaW.PrintWords Go.Proofs.YtdnnkhogpobjbaaW.PrintLast

theorem tp_map (p : List Hk) : ((p.map (fun h_ : Hk => (⟨h_.1, h_.2.1, h_.2.2⟩ : S47))).map (fun x_ : S47 => ((x_.f0, x_.f1, x_.f2) : Hk))) = p := by
  rw [List.map_map]
  exact List.map_id' p
theorem tp_pam (p : List S47) : ((p.map (fun x_ : S47 => ((x_.f0, x_.f1, x_.f2) : Hk))).map (fun h_ : Hk => (⟨h_.1, h_.2.1, h_.2.2⟩ : S47))) = p := by
  rw [List.map_map]
  exact List.map_id' p
def tp_res (q : List S47) : List S47 × Int × Int := if patchFault (q.map (fun x_ : S47 => ((x_.f0, x_.f1, x_.f2) : Hk))) = (0, 0) then (q, 0, 0) else ([], 10, -1)
theorem tp_fit (q : List S47) : textpatch_Fit.f q = some (tp_res q) := by
  unfold textpatch_Fit.f tp_res
  simp only [textpatch_Validate.f, Option.bind_some, fault_ne (patchFault_or (q.map (fun x_ : S47 => ((x_.f0, x_.f1, x_.f2) : Hk)))), decide_eq_true_iff]
  by_cases z : patchFault (q.map (fun x_ : S47 => ((x_.f0, x_.f1, x_.f2) : Hk))) = (0, 0)
  · rw [if_neg (by simpa using z), if_pos z]
  · rw [if_pos (by simpa using z), if_neg z]
theorem tp_loop (xs : List S47) (hl : xs.length ≤ 130) (hx : ∀ x ∈ xs, x.f1.length ≤ 120 ∧ x.f2.length ≤ 120 ∧ 0 ≤ x.f0 ∧ x.f0 ≤ 120) (d : Nat) : ∀ (k i : Nat) (s : Int) (out : List S47), i ≤ xs.length → xs.length - i = d → d < k →
    -(120 * (i : Int)) ≤ s → s ≤ 120 * (i : Int) → out.length = i → textpatch_Invert.l0 k s xs (xs.length : Int) (i : Int) out = some (tp_res (out ++ (invGo ((xs.drop i).map (fun x_ : S47 => ((x_.f0, x_.f1, x_.f2) : Hk))) s).map (fun h_ : Hk => (⟨h_.1, h_.2.1, h_.2.2⟩ : S47)))) := by
  induction d with
  | zero =>
    intro k i s out hi hd hk h0 h1 ho
    obtain ⟨k, rfl⟩ : ∃ m, k = m + 1 := ⟨k - 1, by omega⟩
    simp only [textpatch_Invert.l0]
    rw [if_neg (by omega), tp_fit, show xs.drop i = [] from List.drop_eq_nil_of_le (by omega)]
    simp only [List.map_nil, invGo, List.append_nil, Option.bind_some]
  | succ d ih =>
    intro k i s out hi hd hk h0 h1 ho
    obtain ⟨k, rfl⟩ : ∃ m, k = m + 1 := ⟨k - 1, by omega⟩
    have hm : rd_T47 xs (i : Int) ∈ xs := by
      have e : xs.drop i = rd_T47 xs (i : Int) :: xs.drop (i + 1) := rdOf_drop z47 xs i (by omega)
      exact List.mem_of_mem_drop (show rd_T47 xs (i : Int) ∈ xs.drop i by rw [e]; exact List.mem_cons_self ..)
    have hdr : xs.drop i = rd_T47 xs (i : Int) :: xs.drop (i + 1) := rdOf_drop z47 xs i (by omega)
    obtain ⟨b1, b2, b3, b4⟩ := hx _ hm
    rw [hdr, List.map_cons]
    simp only [textpatch_Invert.l0, slices_Clone_string_string.f]
    generalize rd_T47 xs (i : Int) = h at *
    rw [if_pos (by omega), if_pos (by omega), if_pos (by omega), if_pos (show h.f2.length ≤ 8796093022208 by omega)]
    simp only [Option.bind_some]
    rw [if_pos (show h.f1.length ≤ 8796093022208 by omega)]
    simp only [Option.bind_some]
    rw [if_pos (by omega), w64 (n := (i : Int) + 1) (by omega) (by omega), w64 (n := (h.f2.length : Int) - h.f1.length) (by omega) (by omega), w64 (n := s + ((h.f2.length : Int) - h.f1.length)) (by omega) (by omega), w64 (n := h.f0 + s) (by omega) (by omega)]
    have := ih k (i + 1) (s + ((h.f2.length : Int) - h.f1.length)) (out ++ [⟨h.f0 + s, h.f2, h.f1⟩]) (by omega) (by omega) (by omega) (by omega) (by omega) (by rw [List.length_append, ho]; rfl)
    rw [show ((i + 1 : Nat) : Int) = (i : Int) + 1 by omega] at this
    rw [this, invGo, List.map_cons, List.append_assoc]
    rfl
theorem tp_invert (k : Nat) (hk : 131 ≤ k) (xs : List S47) : textpatch_Invert.f k xs = some ((invSpec (xs.map (fun x_ : S47 => ((x_.f0, x_.f1, x_.f2) : Hk)))).1.map (fun h_ : Hk => (⟨h_.1, h_.2.1, h_.2.2⟩ : S47)), (invSpec (xs.map (fun x_ : S47 => ((x_.f0, x_.f1, x_.f2) : Hk)))).2) := by
  unfold textpatch_Invert.f invSpec
  simp only [textpatch_Validate.f, Option.bind_some, fault_ne (patchFault_or (xs.map (fun x_ : S47 => ((x_.f0, x_.f1, x_.f2) : Hk)))), decide_eq_true_iff]
  by_cases z : patchFault (xs.map (fun x_ : S47 => ((x_.f0, x_.f1, x_.f2) : Hk))) = (0, 0)
  · rw [if_neg (by simpa using z), if_pos z]
    obtain ⟨z1, z2⟩ := patchFault_ok.1 z
    rw [List.length_map] at z1
    have hx : ∀ x ∈ xs, x.f1.length ≤ 120 ∧ x.f2.length ≤ 120 ∧ 0 ≤ x.f0 ∧ x.f0 ≤ 120 := by
      intro x hx
      have := okFrom_all z2 ((fun x_ : S47 => ((x_.f0, x_.f1, x_.f2) : Hk)) x) (List.mem_map_of_mem hx)
      exact this
    have := tp_loop xs z1 hx xs.length k 0 0 [] (by omega) (by omega) (by omega) (by omega) (by omega) rfl
    rw [List.drop_zero, List.nil_append] at this
    refine this.trans ?_
    unfold tp_res
    rw [tp_map]
    by_cases c : patchFault (invGo (xs.map (fun x_ : S47 => ((x_.f0, x_.f1, x_.f2) : Hk))) 0) = (0, 0)
    · rw [if_pos c, if_pos c]
    · rw [if_neg c, if_neg c]; rfl
  · rw [if_pos (by simpa using z), if_neg z]; rfl
theorem tp_same_loop (xs : List S47) (hm : xs.length ≤ 9223372036854775807) (d : Nat) : ∀ (k i : Nat), i ≤ xs.length → xs.length - i = d → d < k → changeforgeequal_Patch.l0 k (i : Int) xs xs = some true := by
  induction d with
  | zero =>
    intro k i hi hd hk
    obtain ⟨k, rfl⟩ : ∃ m, k = m + 1 := ⟨k - 1, by omega⟩
    simp only [changeforgeequal_Patch.l0]
    rw [if_neg (by omega)]
  | succ d ih =>
    intro k i hi hd hk
    obtain ⟨k, rfl⟩ : ∃ m, k = m + 1 := ⟨k - 1, by omega⟩
    simp only [changeforgeequal_Patch.l0, changeforgeequal_Strings.f, Option.bind_some]
    rw [if_pos (by omega), if_pos (by omega), if_pos (by omega), if_pos trivial, if_pos (by simp), if_pos (by simp), w64 (by omega) (by omega)]
    have := ih k (i + 1) (by omega) (by omega) (by omega)
    rw [show ((i + 1 : Nat) : Int) = (i : Int) + 1 by omega] at this
    exact this
theorem tp_same (k : Nat) (xs : List S47) (h : xs.length < k) (hm : xs.length ≤ 9223372036854775807) : changeforgeequal_Patch.f k xs xs = some true := by
  unfold changeforgeequal_Patch.f
  rw [if_pos rfl]
  exact tp_same_loop xs hm xs.length k 0 (by omega) (by omega) h
theorem tp_rep1 : applySpec [((1 : Int), [(⟨#[98]⟩ : ByteArray)], [(⟨#[99]⟩ : ByteArray), ⟨#[100]⟩])] [(⟨#[97]⟩ : ByteArray), ⟨#[98]⟩] = ([⟨#[97]⟩, ⟨#[99]⟩, ⟨#[100]⟩], 0, 0) := (apply_good (p := [((1 : Int), [(⟨#[98]⟩ : ByteArray)], [(⟨#[99]⟩ : ByteArray), ⟨#[100]⟩])]) (t := [(⟨#[97]⟩ : ByteArray), ⟨#[98]⟩]) (by decide +kernel) (by decide +kernel) ⟨⟨by decide +kernel, rfl⟩, trivial⟩ (by decide +kernel)).trans rfl
theorem tp_rep2 : invSpec [((1 : Int), [(⟨#[98]⟩ : ByteArray)], [(⟨#[99]⟩ : ByteArray), ⟨#[100]⟩])] = ([((1 : Int), [(⟨#[99]⟩ : ByteArray), ⟨#[100]⟩], [(⟨#[98]⟩ : ByteArray)])], 0, 0) := (inv_good (p := [((1 : Int), [(⟨#[98]⟩ : ByteArray)], [(⟨#[99]⟩ : ByteArray), ⟨#[100]⟩])]) (by decide +kernel) (by decide +kernel)).trans rfl
theorem tp_replaced (k : Nat) (hk : 131 ≤ k) : changeforgelaw1_replaced.f k = some true := by
  unfold changeforgelaw1_replaced.f
  simp only [changeforgelaw1_hunk.f, Option.bind_some, textpatch_Apply.f, tp_invert k hk, List.map_cons, List.map_nil, tp_rep1, tp_rep2, changeforgeequal_Strings.f, decide_true, if_true]
  rw [tp_same k _ (by simp; omega) (by simp)]
  rfl
theorem TextpatchInvolution : changeforgelaw1_TextpatchInvolution.Pure := by
  intro l0 h0 _
  refine ⟨200, ?_⟩
  unfold changeforgelaw1_TextpatchInvolution.f
  rw [tp_invert 200 (by omega) l0, tp_replaced 200 (by omega)]
  simp only [Option.bind_some]
  by_cases c : (invSpec (l0.map (fun x_ : S47 => ((x_.f0, x_.f1, x_.f2) : Hk)))).2.1 = 0
  · obtain ⟨a1, a2, a3⟩ := inv_zero c
    have h1 := (patchFault_ok.1 a1).1
    rw [List.length_map] at h1
    have e : invSpec (invGo (l0.map (fun x_ : S47 => ((x_.f0, x_.f1, x_.f2) : Hk))) 0) = (l0.map (fun x_ : S47 => ((x_.f0, x_.f1, x_.f2) : Hk)), 0, 0) := by rw [inv_good a2 (by rw [invGo_inv _ 0 0 rfl]; exact a1), invGo_inv _ 0 0 rfl]
    rw [if_pos c, a3]
    simp only
    rw [tp_invert 200 (by omega), tp_map, e]
    simp only [Option.bind_some, if_true]
    rw [tp_pam, tp_same 200 l0 (by omega) (by omega)]
    rfl
  · rw [if_neg c]
end Go.Proofs.Ytdnnkhogpobjbaa.Pure
