/- Two patches of the same text that can be moved behind each other have the same effect in both orders. -/
import Derived.Test.YtdnnkhogpobjbaaPQ8
import Derived.Test.YtdnnkhogpobjbaaReb
namespace Go.Proofs.Ytdnnkhogpobjbaa.Pure
open Go.RowKit Go.Proofs.Ytdnnkhogpobjbaa.PQ Go.Proofs.Ytdnnkhogpobjbaa.Pre Go.Proofs.YtdnnkhogpobjbaaW.PrintWords Go.Proofs.YtdnnkhogpobjbaaW.PrintLast

theorem tp_map (p : List Hk) : ((p.map (fun h_ : Hk => (⟨h_.1, h_.2.1, h_.2.2⟩ : S47))).map (fun x_ : S47 => ((x_.f0, x_.f1, x_.f2) : Hk))) = p := by
  rw [List.map_map]
  exact List.map_id' p
theorem tp_pam (p : List S47) : ((p.map (fun x_ : S47 => ((x_.f0, x_.f1, x_.f2) : Hk))).map (fun h_ : Hk => (⟨h_.1, h_.2.1, h_.2.2⟩ : S47))) = p := by
  rw [List.map_map]
  exact List.map_id' p
def tp_res (q : List S47) : List S47 × Int × Int := if patchFault (q.map (fun x_ : S47 => ((x_.f0, x_.f1, x_.f2) : Hk))) = (0, 0) then (q, 0, 0) else ([], 10, -1)
theorem tp_fit (q : List S47) : textpatch_Fit.f q = some (tp_res q) := by
  unfold textpatch_Fit.f tp_res
  simp only [textpatch_Validate.f, Option.bind_some, fault_ne (patchFault_or (q.map (fun x_ : S47 => ((x_.f0, x_.f1, x_.f2) : Hk)))), decide_eq_true_iff]
  by_cases z : patchFault (q.map (fun x_ : S47 => ((x_.f0, x_.f1, x_.f2) : Hk))) = (0, 0)
  · rw [if_neg (by simpa using z), if_pos z]
  · rw [if_pos (by simpa using z), if_neg z]
theorem tp_same_loop (xs : List S47) (hm : xs.length ≤ 9223372036854775807) (d : Nat) : ∀ (k i : Nat), i ≤ xs.length → xs.length - i = d → 2 * d < k → changeforgeequal_Patch.l0 k (i : Int) xs xs = some true := by
  induction d with
  | zero =>
    intro k i hi hd hk
    obtain ⟨k, rfl⟩ : ∃ m, k = m + 1 := ⟨k - 1, by omega⟩
    simp only [changeforgeequal_Patch.l0]
    rw [if_neg (by omega)]
  | succ d ih =>
    intro k i hi hd hk
    obtain ⟨k, rfl⟩ : ∃ m, k = m + 2 := ⟨k - 2, by omega⟩
    simp only [changeforgeequal_Patch.l0, changeforgeequal_Patch.j1, changeforgeequal_Strings.f, Option.bind_some]
    rw [if_pos (by omega), if_pos (by omega), if_pos (by omega), if_pos trivial, if_pos (by simp), if_neg (by simp), w64 (by omega) (by omega)]
    have := ih k (i + 1) (by omega) (by omega) (by omega)
    rw [show ((i + 1 : Nat) : Int) = (i : Int) + 1 by omega] at this
    exact this
theorem tp_same (k : Nat) (xs : List S47) (h : 2 * xs.length < k) (hm : xs.length ≤ 9223372036854775807) : changeforgeequal_Patch.f k xs xs = some true := by
  unfold changeforgeequal_Patch.f
  rw [if_pos rfl]
  exact tp_same_loop xs hm xs.length k 0 (by omega) (by omega) h
def cm_s (x : S78) : Sp := (x.f0, x.f1)
def cm_k (x : Sp) : S78 := ⟨x.1, x.2⟩
theorem cm_sk (l : List Sp) : (l.map cm_k).map cm_s = l := by
  rw [List.map_map]
  exact List.map_id' l
def cm_in (xs : List S47) : Prop := xs.length ≤ 130 ∧ ∀ x ∈ xs, x.f1.length ≤ 120 ∧ x.f2.length ≤ 120 ∧ 0 ≤ x.f0 ∧ x.f0 ≤ 120
theorem cm_of (xs : List S47) (h : patchFault (xs.map (fun x_ : S47 => ((x_.f0, x_.f1, x_.f2) : Hk))) = (0, 0)) : cm_in xs := by
  obtain ⟨z1, z2⟩ := patchFault_ok.1 h
  rw [List.length_map] at z1
  exact ⟨z1, fun x hx => okFrom_all z2 _ (List.mem_map_of_mem hx)⟩
theorem cm_mem {xs : List S47} (i : Nat) (hi : i < xs.length) : rd_T47 xs (i : Int) ∈ xs := by
  have e : xs.drop i = rd_T47 xs (i : Int) :: xs.drop (i + 1) := rdOf_drop z47 xs i hi
  exact List.mem_of_mem_drop (show rd_T47 xs (i : Int) ∈ xs.drop i by rw [e]; exact List.mem_cons_self ..)
theorem cm_check (p q : List S47) : commute_check.f p q = some (if patchFault (p.map (fun x_ : S47 => ((x_.f0, x_.f1, x_.f2) : Hk))) = (0, 0) then (if patchFault (q.map (fun x_ : S47 => ((x_.f0, x_.f1, x_.f2) : Hk))) = (0, 0) then (0, 0) else ((patchFault (q.map (fun x_ : S47 => ((x_.f0, x_.f1, x_.f2) : Hk)))).1, -2)) else patchFault (p.map (fun x_ : S47 => ((x_.f0, x_.f1, x_.f2) : Hk)))) := by
  unfold commute_check.f
  simp only [textpatch_Validate.f, Option.bind_some, fault_ne (patchFault_or (p.map (fun x_ : S47 => ((x_.f0, x_.f1, x_.f2) : Hk)))), fault_ne (patchFault_or (q.map (fun x_ : S47 => ((x_.f0, x_.f1, x_.f2) : Hk)))), decide_eq_true_iff]
  by_cases z : patchFault (p.map (fun x_ : S47 => ((x_.f0, x_.f1, x_.f2) : Hk))) = (0, 0)
  · rw [if_neg (by simpa using z), if_pos z]
    by_cases y : patchFault (q.map (fun x_ : S47 => ((x_.f0, x_.f1, x_.f2) : Hk))) = (0, 0)
    · rw [if_neg (by simpa using y), if_pos y]
    · rw [if_pos (by simpa using y), if_neg y]
  · rw [if_pos (by simpa using z), if_neg z]
theorem cm_olds_loop (xs : List S47) (h : cm_in xs) (d : Nat) : ∀ (k i : Nat) (out : List S78), i ≤ xs.length → xs.length - i = d → d < k → out.length = i →
    commute_olds.l0 k out xs (xs.length : Int) (i : Int) = some (out ++ (oldsOf ((xs.drop i).map (fun x_ : S47 => ((x_.f0, x_.f1, x_.f2) : Hk)))).map cm_k) := by
  obtain ⟨hl, hx⟩ := h
  induction d with
  | zero =>
    intro k i out hi hd hk ho
    obtain ⟨k, rfl⟩ : ∃ m, k = m + 1 := ⟨k - 1, by omega⟩
    rw [commute_olds.l0, if_neg (by omega), show xs.drop i = [] from List.drop_eq_nil_of_le (by omega)]
    simp [oldsOf]
  | succ d ih =>
    intro k i out hi hd hk ho
    obtain ⟨k, rfl⟩ : ∃ m, k = m + 1 := ⟨k - 1, by omega⟩
    have hdr : xs.drop i = rd_T47 xs (i : Int) :: xs.drop (i + 1) := rdOf_drop z47 xs i (by omega)
    obtain ⟨b1, b2, b3, b4⟩ := hx _ (cm_mem i (by omega))
    have := ih k (i + 1) (out ++ [⟨(rd_T47 xs (i : Int)).f0, (rd_T47 xs (i : Int)).f0 + ((rd_T47 xs (i : Int)).f1.length : Int)⟩]) (by omega) (by omega) (by omega) (by rw [List.length_append, ho]; rfl)
    rw [show ((i + 1 : Nat) : Int) = (i : Int) + 1 by omega] at this
    rw [commute_olds.l0, if_pos (by omega), if_pos (by omega), if_pos (by omega), textpatch_End.f, Option.bind_some, if_pos (by omega), w64 (n := (i : Int) + 1) (by omega) (by omega), w64 (by omega) (by omega), this, hdr, List.append_assoc]
    rfl
theorem cm_olds (k : Nat) (hk : 200 ≤ k) (xs : List S47) (h : cm_in xs) : commute_olds.f k xs = some ((oldsOf (xs.map (fun x_ : S47 => ((x_.f0, x_.f1, x_.f2) : Hk)))).map cm_k) := by
  have hl := h.1
  have := cm_olds_loop xs h xs.length k 0 [] (by omega) (by omega) (by omega) rfl
  rw [List.drop_zero, List.nil_append] at this
  exact this
theorem cm_news_loop (xs : List S47) (h : cm_in xs) (d : Nat) : ∀ (k i : Nat) (s : Int) (out : List S78), i ≤ xs.length → xs.length - i = d → d < k → out.length = i → -(120 * (i : Int)) ≤ s → s ≤ 120 * (i : Int) →
    commute_news.l0 k out s xs (xs.length : Int) (i : Int) = some (out ++ (newsGo ((xs.drop i).map (fun x_ : S47 => ((x_.f0, x_.f1, x_.f2) : Hk))) s).map cm_k) := by
  obtain ⟨hl, hx⟩ := h
  induction d with
  | zero =>
    intro k i s out hi hd hk ho h0 h1
    obtain ⟨k, rfl⟩ : ∃ m, k = m + 1 := ⟨k - 1, by omega⟩
    rw [commute_news.l0, if_neg (by omega), show xs.drop i = [] from List.drop_eq_nil_of_le (by omega)]
    simp [newsGo]
  | succ d ih =>
    intro k i s out hi hd hk ho h0 h1
    obtain ⟨k, rfl⟩ : ∃ m, k = m + 1 := ⟨k - 1, by omega⟩
    have hdr : xs.drop i = rd_T47 xs (i : Int) :: xs.drop (i + 1) := rdOf_drop z47 xs i (by omega)
    obtain ⟨b1, b2, b3, b4⟩ := hx _ (cm_mem i (by omega))
    have := ih k (i + 1) (s + (((rd_T47 xs (i : Int)).f2.length : Int) - ((rd_T47 xs (i : Int)).f1.length : Int))) (out ++ [⟨(rd_T47 xs (i : Int)).f0 + s, (rd_T47 xs (i : Int)).f0 + s + ((rd_T47 xs (i : Int)).f2.length : Int)⟩]) (by omega) (by omega) (by omega) (by rw [List.length_append, ho]; rfl) (by omega) (by omega)
    rw [show ((i + 1 : Nat) : Int) = (i : Int) + 1 by omega] at this
    rw [commute_news.l0, if_pos (by omega), if_pos (by omega), if_pos (by omega), if_pos (by omega), w64 (n := (i : Int) + 1) (by omega) (by omega), w64 (n := (rd_T47 xs (i : Int)).f0 + s) (by omega) (by omega), w64 (n := (rd_T47 xs (i : Int)).f0 + s + ((rd_T47 xs (i : Int)).f2.length : Int)) (by omega) (by omega), w64 (n := ((rd_T47 xs (i : Int)).f2.length : Int) - ((rd_T47 xs (i : Int)).f1.length : Int)) (by omega) (by omega), w64 (by omega) (by omega), this, hdr, List.append_assoc]
    rfl
theorem cm_news (k : Nat) (hk : 200 ≤ k) (xs : List S47) (h : cm_in xs) : commute_news.f k xs = some ((newsGo (xs.map (fun x_ : S47 => ((x_.f0, x_.f1, x_.f2) : Hk))) 0).map cm_k) := by
  have hl := h.1
  have := cm_news_loop xs h xs.length k 0 0 [] (by omega) (by omega) (by omega) rfl (by omega) (by omega)
  rw [List.drop_zero, List.nil_append] at this
  exact this
theorem cm_ind_in (a b : List S78) (ha : a.length ≤ 130) (hb : b.length ≤ 130) (i : Nat) (hi : i < a.length) (x y : Int) (d : Nat) : ∀ (k j : Nat), j ≤ b.length → b.length - j = d →
    commute_independent.l1 (k + d + 1) b a (a.length : Int) (i : Int) b (b.length : Int) (j : Int) x y = if (b.drop j).all (fun z => apartB (x, y) (cm_s z)) = true then commute_independent.l0 k b a (a.length : Int) ((i : Int) + 1) else some false := by
  induction d with
  | zero =>
    intro k j hj hd
    rw [commute_independent.l1, if_neg (by omega), show b.drop j = [] from List.drop_eq_nil_of_le (by omega), w64 (by omega) (by omega)]
    rfl
  | succ d ih =>
    intro k j hj hd
    have hdr : b.drop j = rd_T78 b (j : Int) :: b.drop (j + 1) := rdOf_drop z78 b j (by omega)
    have := ih k (j + 1) (by omega) (by omega)
    rw [show ((j + 1 : Nat) : Int) = (j : Int) + 1 by omega] at this
    rw [show k + (d + 1) + 1 = (k + d + 1) + 1 by omega, commute_independent.l1, if_pos (by omega), if_pos (by omega), if_pos (by omega), w64 (n := (j : Int) + 1) (by omega) (by omega), this, hdr, List.all_cons]
    have e : commute_apart.f x y (rd_T78 b (j : Int)).f0 (rd_T78 b (j : Int)).f1 = some (apartB (x, y) (cm_s (rd_T78 b (j : Int)))) := by
      unfold commute_apart.f apartB cm_s
      by_cases c : y < (rd_T78 b (j : Int)).f0
      · rw [if_pos c]; simp [c]
      · rw [if_neg c]; simp [c]
    rw [e, Option.bind_some]
    generalize apartB (x, y) (cm_s (rd_T78 b (j : Int))) = B
    cases B with
    | true => rw [if_pos rfl, Bool.true_and]
    | false => rw [if_neg (by decide), Bool.false_and, if_neg (by decide)]
theorem cm_ind_out (a b : List S78) (ha : a.length ≤ 130) (hb : b.length ≤ 130) (d : Nat) : ∀ (k i : Nat), i ≤ a.length → a.length - i = d → d * 140 + 1 ≤ k → commute_independent.l0 k b a (a.length : Int) (i : Int) = some (indepB ((a.drop i).map cm_s) (b.map cm_s)) := by
  induction d with
  | zero =>
    intro k i hi hd hk
    obtain ⟨k, rfl⟩ : ∃ m, k = m + 1 := ⟨k - 1, by omega⟩
    rw [commute_independent.l0, if_neg (by omega), show a.drop i = [] from List.drop_eq_nil_of_le (by omega)]
    rfl
  | succ d ih =>
    intro k i hi hd hk
    obtain ⟨k, rfl⟩ : ∃ m, k = (m + b.length + 1) + 1 := ⟨k - b.length - 2, by omega⟩
    have hdr : a.drop i = rd_T78 a (i : Int) :: a.drop (i + 1) := rdOf_drop z78 a i (by omega)
    have h1 := cm_ind_in a b ha hb i (by omega) (rd_T78 a (i : Int)).f0 (rd_T78 a (i : Int)).f1 b.length k 0 (by omega) (by omega)
    have h2 := ih k (i + 1) (by omega) (by omega) (by omega)
    rw [show ((i + 1 : Nat) : Int) = (i : Int) + 1 by omega] at h2
    rw [List.drop_zero, show ((0 : Nat) : Int) = 0 from rfl] at h1
    rw [commute_independent.l0, if_pos (by omega), if_pos (by omega), if_pos (by omega), h1, h2, hdr]
    unfold indepB
    rw [List.map_cons, List.all_cons, List.all_map]
    have e : ((b.map cm_s).all fun y => apartB (cm_s (rd_T78 a (i : Int))) y) = b.all (fun z => apartB ((rd_T78 a (i : Int)).f0, (rd_T78 a (i : Int)).f1) (cm_s z)) := by rw [List.all_map]; rfl
    rw [e]
    generalize b.all (fun z => apartB ((rd_T78 a (i : Int)).f0, (rd_T78 a (i : Int)).f1) (cm_s z)) = B
    cases B with
    | true => rw [if_pos rfl, Bool.true_and]
    | false => rw [if_neg (by decide), Bool.false_and]
theorem cm_ind (k : Nat) (hk : 30000 ≤ k) (a b : List S78) (ha : a.length ≤ 130) (hb : b.length ≤ 130) : commute_independent.f k a b = some (indepB (a.map cm_s) (b.map cm_s)) := by
  have := cm_ind_out a b ha hb a.length k 0 (by omega) (by omega) (by omega)
  rw [List.drop_zero] at this
  exact this
theorem cm_g0 (sp : List Sp) (x : Int) : growAt [] sp x = 0 := rfl
theorem cm_g1 (h : Hk) (r : List Hk) (x : Int) : growAt (h :: r) [] x = 0 := rfl
theorem cm_g2 (h : Hk) (r : List Hk) (s : Sp) (t : List Sp) (x : Int) : growAt (h :: r) (s :: t) x = (if s.2 < x then gr h else 0) + growAt r t x := rfl
theorem cm_grow_le (b : List S47) : ∀ (sp : List Sp) (x : Int), (∀ y ∈ b, y.f1.length ≤ 120 ∧ y.f2.length ≤ 120 ∧ 0 ≤ y.f0 ∧ y.f0 ≤ 120) → -(120 * (b.length : Int)) ≤ growAt (b.map (fun x_ : S47 => ((x_.f0, x_.f1, x_.f2) : Hk))) sp x ∧ growAt (b.map (fun x_ : S47 => ((x_.f0, x_.f1, x_.f2) : Hk))) sp x ≤ 120 * (b.length : Int) := by
  induction b with
  | nil => intro sp x _; rw [List.map_nil, cm_g0, List.length_nil]; omega
  | cons h r ih =>
    intro sp x k
    cases sp with
    | nil => rw [List.map_cons, cm_g1, List.length_cons]; omega
    | cons s t =>
      have := ih t x (fun y hy => k y (List.mem_cons_of_mem _ hy))
      have := k h (List.mem_cons_self ..)
      rw [List.map_cons, cm_g2, List.length_cons, gr_eq]
      simp only []
      split <;> omega
theorem cm_grow_loop (b : List S47) (h : cm_in b) (sp : List S78) (hs : sp.length = b.length) (x : Int) (d : Nat) : ∀ (k i : Nat) (n : Int), i ≤ b.length → b.length - i = d → d < k → -(120 * (i : Int)) ≤ n → n ≤ 120 * (i : Int) →
    commute_growth.l0 k sp x n b (b.length : Int) (i : Int) = some (n + growAt ((b.drop i).map (fun x_ : S47 => ((x_.f0, x_.f1, x_.f2) : Hk))) ((sp.drop i).map cm_s) x) := by
  obtain ⟨hl, hx⟩ := h
  induction d with
  | zero =>
    intro k i n hi hd hk h0 h1
    obtain ⟨k, rfl⟩ : ∃ m, k = m + 1 := ⟨k - 1, by omega⟩
    rw [commute_growth.l0, if_neg (by omega), show b.drop i = [] from List.drop_eq_nil_of_le (by omega), List.map_nil, cm_g0, Int.add_zero]
  | succ d ih =>
    intro k i n hi hd hk h0 h1
    obtain ⟨k, rfl⟩ : ∃ m, k = m + 1 := ⟨k - 1, by omega⟩
    have hdr : b.drop i = rd_T47 b (i : Int) :: b.drop (i + 1) := rdOf_drop z47 b i (by omega)
    have hds : sp.drop i = rd_T78 sp (i : Int) :: sp.drop (i + 1) := rdOf_drop z78 sp i (by omega)
    obtain ⟨b1, b2, b3, b4⟩ := hx _ (cm_mem i (by omega))
    rw [commute_growth.l0, if_pos (by omega), if_pos (by omega), if_pos (by omega), if_pos (by omega), w64 (n := (i : Int) + 1) (by omega) (by omega), hdr, hds, List.map_cons, List.map_cons, cm_g2, gr_eq]
    show (if (rd_T78 sp (i : Int)).f1 < x then _ else _) = some (n + ((if (rd_T78 sp (i : Int)).f1 < x then _ else _) + _))
    by_cases c : (rd_T78 sp (i : Int)).f1 < x
    · have := ih k (i + 1) (n + (((rd_T47 b (i : Int)).f2.length : Int) - ((rd_T47 b (i : Int)).f1.length : Int))) (by omega) (by omega) (by omega) (by omega) (by omega)
      rw [show ((i + 1 : Nat) : Int) = (i : Int) + 1 by omega] at this
      rw [if_pos c, if_pos c, w64 (n := ((rd_T47 b (i : Int)).f2.length : Int) - ((rd_T47 b (i : Int)).f1.length : Int)) (by omega) (by omega), w64 (by omega) (by omega), this, Int.add_assoc]
    · have := ih k (i + 1) n (by omega) (by omega) (by omega) (by omega) (by omega)
      rw [show ((i + 1 : Nat) : Int) = (i : Int) + 1 by omega] at this
      rw [if_neg c, if_neg c, this, Int.zero_add]
theorem cm_grow (k : Nat) (hk : 200 ≤ k) (b : List S47) (h : cm_in b) (sp : List S78) (hs : sp.length = b.length) (x : Int) : commute_growth.f k b sp x = some (growAt (b.map (fun x_ : S47 => ((x_.f0, x_.f1, x_.f2) : Hk))) (sp.map cm_s) x) := by
  have hl := h.1
  have := cm_grow_loop b h sp hs x b.length k 0 0 (by omega) (by omega) (by omega) (by omega) (by omega)
  rw [List.drop_zero, List.drop_zero, Int.zero_add] at this
  exact this
theorem cm_shift_loop (xs b : List S47) (h : cm_in xs) (hb : cm_in b) (sp : List S78) (hs : sp.length = b.length) (sg : Int) (hg : sg = 1 ∨ sg = -1) (d : Nat) : ∀ (k i : Nat) (out : List S47), i ≤ xs.length → xs.length - i = d → d + 200 < k → out.length = i →
    commute_shifted.l0 k sp sg xs (xs.length : Int) (i : Int) b out = some (out ++ (shiftBy ((xs.drop i).map (fun x_ : S47 => ((x_.f0, x_.f1, x_.f2) : Hk))) (b.map (fun x_ : S47 => ((x_.f0, x_.f1, x_.f2) : Hk))) (sp.map cm_s) sg).map (fun h_ : Hk => (⟨h_.1, h_.2.1, h_.2.2⟩ : S47))) := by
  obtain ⟨hl, hx⟩ := h
  induction d with
  | zero =>
    intro k i out hi hd hk ho
    obtain ⟨k, rfl⟩ : ∃ m, k = m + 1 := ⟨k - 1, by omega⟩
    rw [commute_shifted.l0, if_neg (by omega), show xs.drop i = [] from List.drop_eq_nil_of_le (by omega)]
    simp [shiftBy]
  | succ d ih =>
    intro k i out hi hd hk ho
    obtain ⟨k, rfl⟩ : ∃ m, k = m + 1 := ⟨k - 1, by omega⟩
    have hdr : xs.drop i = rd_T47 xs (i : Int) :: xs.drop (i + 1) := rdOf_drop z47 xs i (by omega)
    obtain ⟨b1, b2, b3, b4⟩ := hx _ (cm_mem i (by omega))
    have hG := cm_grow_le b (sp.map cm_s) (rd_T47 xs (i : Int)).f0 hb.2
    have hb1 := hb.1
    have e := cm_grow k (by omega) b hb sp hs (rd_T47 xs (i : Int)).f0
    have := ih k (i + 1) (out ++ [⟨(rd_T47 xs (i : Int)).f0 + sg * growAt (b.map (fun x_ : S47 => ((x_.f0, x_.f1, x_.f2) : Hk))) (sp.map cm_s) (rd_T47 xs (i : Int)).f0, (rd_T47 xs (i : Int)).f1, (rd_T47 xs (i : Int)).f2⟩]) (by omega) (by omega) (by omega) (by rw [List.length_append, ho]; rfl)
    rw [show ((i + 1 : Nat) : Int) = (i : Int) + 1 by omega] at this
    obtain ⟨G, hGe⟩ : ∃ G, growAt (b.map (fun x_ : S47 => ((x_.f0, x_.f1, x_.f2) : Hk))) (sp.map cm_s) (rd_T47 xs (i : Int)).f0 = G := ⟨_, rfl⟩
    rw [hGe] at hG e this
    rw [commute_shifted.l0, if_pos (by omega), if_pos (by omega), if_pos (by omega), e, Option.bind_some]
    have hm : sg * G = G ∨ sg * G = -G := by rcases hg with rfl | rfl <;> omega
    rw [w64 (n := sg * G) (by omega) (by omega), w64 (n := (rd_T47 xs (i : Int)).f0 + sg * G) (by omega) (by omega)]
    unfold textpatch_Moved.f
    simp only [slices_Clone_string_string.f]
    rw [if_pos (by omega)]
    simp only [Option.bind_some]
    rw [if_pos (by omega)]
    simp only [Option.bind_some]
    rw [if_pos (by omega), w64 (n := (i : Int) + 1) (by omega) (by omega), this, hdr, List.append_assoc]
    rw [← hGe]
    rfl
theorem cm_shift (k : Nat) (hk : 400 ≤ k) (xs b : List S47) (h : cm_in xs) (hb : cm_in b) (sp : List S78) (hs : sp.length = b.length) (sg : Int) (hg : sg = 1 ∨ sg = -1) : commute_shifted.f k xs b sp sg = some ((shiftBy (xs.map (fun x_ : S47 => ((x_.f0, x_.f1, x_.f2) : Hk))) (b.map (fun x_ : S47 => ((x_.f0, x_.f1, x_.f2) : Hk))) (sp.map cm_s) sg).map (fun h_ : Hk => (⟨h_.1, h_.2.1, h_.2.2⟩ : S47))) := by
  have hl := h.1
  have := cm_shift_loop xs b h hb sp hs sg hg xs.length k 0 [] (by omega) (by omega) (by omega) rfl
  rw [List.drop_zero, List.nil_append] at this
  exact this
theorem cm_news_len (p : List Hk) : ∀ s, (newsGo p s).length = p.length := by
  induction p with
  | nil => intro s; rfl
  | cons h r ih => intro s; show (newsGo r _).length + 1 = r.length + 1; rw [ih]
theorem cm_comm (k : Nat) (hk : 30000 ≤ k) (p q : List S47) : commute_Commute.f k p q = some ((commSpec (p.map (fun x_ : S47 => ((x_.f0, x_.f1, x_.f2) : Hk))) (q.map (fun x_ : S47 => ((x_.f0, x_.f1, x_.f2) : Hk)))).1.map (fun h_ : Hk => (⟨h_.1, h_.2.1, h_.2.2⟩ : S47)), (commSpec (p.map (fun x_ : S47 => ((x_.f0, x_.f1, x_.f2) : Hk))) (q.map (fun x_ : S47 => ((x_.f0, x_.f1, x_.f2) : Hk)))).2.1.map (fun h_ : Hk => (⟨h_.1, h_.2.1, h_.2.2⟩ : S47)), (commSpec (p.map (fun x_ : S47 => ((x_.f0, x_.f1, x_.f2) : Hk))) (q.map (fun x_ : S47 => ((x_.f0, x_.f1, x_.f2) : Hk)))).2.2) := by
  unfold commute_Commute.f
  rw [cm_check]
  simp only [Option.bind_some]
  unfold commSpec
  by_cases z1 : patchFault (p.map (fun x_ : S47 => ((x_.f0, x_.f1, x_.f2) : Hk))) = (0, 0)
  · rw [if_pos z1, if_pos z1]
    by_cases z2 : patchFault (q.map (fun x_ : S47 => ((x_.f0, x_.f1, x_.f2) : Hk))) = (0, 0)
    · rw [if_pos z2, if_pos z2, if_neg (by simp)]
      have ip := cm_of p z1
      have iq := cm_of q z2
      have lp := ip.1
      have lq := iq.1
      rw [cm_news k (by omega) p ip, Option.bind_some, cm_olds k (by omega) q iq, Option.bind_some, cm_ind k hk _ _ (by rw [List.length_map, cm_news_len, List.length_map]; omega) (by rw [List.length_map, oldsOf, List.length_map, List.length_map]; omega), Option.bind_some, cm_sk, cm_sk]
      by_cases z3 : indepB (newsGo (p.map (fun x_ : S47 => ((x_.f0, x_.f1, x_.f2) : Hk))) 0) (oldsOf (q.map (fun x_ : S47 => ((x_.f0, x_.f1, x_.f2) : Hk)))) = true
      · rw [if_pos z3, if_pos z3, Option.bind_some, cm_shift k (by omega) q p iq ip _ (by rw [List.length_map, cm_news_len, List.length_map]) (-1) (.inr rfl), Option.bind_some, cm_sk, tp_fit, Option.bind_some]
        rw [show shiftBy (q.map (fun x_ : S47 => ((x_.f0, x_.f1, x_.f2) : Hk))) (p.map (fun x_ : S47 => ((x_.f0, x_.f1, x_.f2) : Hk))) (newsGo (p.map (fun x_ : S47 => ((x_.f0, x_.f1, x_.f2) : Hk))) 0) (-1) = commA (p.map (fun x_ : S47 => ((x_.f0, x_.f1, x_.f2) : Hk))) (q.map (fun x_ : S47 => ((x_.f0, x_.f1, x_.f2) : Hk))) from rfl]
        unfold tp_res
        rw [tp_map]
        by_cases z4 : patchFault (commA (p.map (fun x_ : S47 => ((x_.f0, x_.f1, x_.f2) : Hk))) (q.map (fun x_ : S47 => ((x_.f0, x_.f1, x_.f2) : Hk)))) = (0, 0)
        · rw [if_pos z4, if_pos z4, if_neg (by simp)]
          simp only []
          have ia := cm_of ((commA (p.map (fun x_ : S47 => ((x_.f0, x_.f1, x_.f2) : Hk))) (q.map (fun x_ : S47 => ((x_.f0, x_.f1, x_.f2) : Hk)))).map (fun h_ : Hk => (⟨h_.1, h_.2.1, h_.2.2⟩ : S47))) (by rw [tp_map]; exact z4)
          rw [cm_olds k (by omega) _ ia, Option.bind_some, cm_shift k (by omega) p _ ip ia _ (by rw [List.length_map, oldsOf, List.length_map, List.length_map]) 1 (.inl rfl), Option.bind_some, cm_sk, tp_map, tp_fit, Option.bind_some]
          unfold tp_res
          rw [show shiftBy (p.map (fun x_ : S47 => ((x_.f0, x_.f1, x_.f2) : Hk))) (commA (p.map (fun x_ : S47 => ((x_.f0, x_.f1, x_.f2) : Hk))) (q.map (fun x_ : S47 => ((x_.f0, x_.f1, x_.f2) : Hk)))) (oldsOf (commA (p.map (fun x_ : S47 => ((x_.f0, x_.f1, x_.f2) : Hk))) (q.map (fun x_ : S47 => ((x_.f0, x_.f1, x_.f2) : Hk))))) 1 = commB (p.map (fun x_ : S47 => ((x_.f0, x_.f1, x_.f2) : Hk))) (commA (p.map (fun x_ : S47 => ((x_.f0, x_.f1, x_.f2) : Hk))) (q.map (fun x_ : S47 => ((x_.f0, x_.f1, x_.f2) : Hk)))) from rfl, tp_map]
          by_cases z5 : patchFault (commB (p.map (fun x_ : S47 => ((x_.f0, x_.f1, x_.f2) : Hk))) (commA (p.map (fun x_ : S47 => ((x_.f0, x_.f1, x_.f2) : Hk))) (q.map (fun x_ : S47 => ((x_.f0, x_.f1, x_.f2) : Hk))))) = (0, 0)
          · rw [if_pos z5, if_pos z5, if_neg (by simp)]
          · rw [if_neg z5, if_neg z5, if_pos (by simp)]
            rfl
        · rw [if_neg z4, if_neg z4, if_pos (by simp)]
          rfl
      · rw [if_neg z3, if_neg z3]
        rfl
    · have e := (patchFault_or (q.map (fun x_ : S47 => ((x_.f0, x_.f1, x_.f2) : Hk)))).resolve_left z2
      rw [if_neg z2, if_neg z2, if_pos (by simp)]
      rfl
  · have e := (patchFault_or (p.map (fun x_ : S47 => ((x_.f0, x_.f1, x_.f2) : Hk)))).resolve_left z1
    rw [if_neg z1, if_neg z1, if_pos (by simp [e])]
    rfl
theorem cm_ex : commSpec [((0 : Int), [], [(⟨#[97]⟩ : ByteArray)])] [((5 : Int), [(⟨#[120]⟩ : ByteArray)], [])] = ([((4 : Int), [(⟨#[120]⟩ : ByteArray)], [])], [((0 : Int), [], [(⟨#[97]⟩ : ByteArray)])], true, 0, 0) := by decide +kernel
theorem cm_exchanged (k : Nat) (hk : 30000 ≤ k) : changeforgelaw1_exchanged.f k = some true := by
  unfold changeforgelaw1_exchanged.f
  simp only [changeforgelaw1_hunk.f, Option.bind_some, cm_comm k hk, List.map_cons, List.map_nil, cm_ex, if_true]
  rw [tp_same k _ (by simp; omega) (by simp)]
  simp only [Option.bind_some, if_true]
  rw [tp_same k _ (by simp; omega) (by simp)]
  rfl
theorem cm_reb (k : Nat) (hk : 30000 ≤ k) (p q : List S47) : commute_Rebase.f k p q = some ((rebSpec (p.map (fun x_ : S47 => ((x_.f0, x_.f1, x_.f2) : Hk))) (q.map (fun x_ : S47 => ((x_.f0, x_.f1, x_.f2) : Hk)))).1.map (fun h_ : Hk => (⟨h_.1, h_.2.1, h_.2.2⟩ : S47)), (rebSpec (p.map (fun x_ : S47 => ((x_.f0, x_.f1, x_.f2) : Hk))) (q.map (fun x_ : S47 => ((x_.f0, x_.f1, x_.f2) : Hk)))).2) := by
  unfold commute_Rebase.f
  rw [cm_check]
  simp only [Option.bind_some]
  unfold rebSpec
  by_cases z1 : patchFault (p.map (fun x_ : S47 => ((x_.f0, x_.f1, x_.f2) : Hk))) = (0, 0)
  · rw [if_pos z1, if_pos z1]
    by_cases z2 : patchFault (q.map (fun x_ : S47 => ((x_.f0, x_.f1, x_.f2) : Hk))) = (0, 0)
    · rw [if_pos z2, if_pos z2, if_neg (by simp)]
      have ip := cm_of p z1
      have iq := cm_of q z2
      have lp := ip.1
      have lq := iq.1
      rw [cm_olds k (by omega) p ip, Option.bind_some, cm_olds k (by omega) q iq, Option.bind_some, cm_ind k hk _ _ (by rw [List.length_map, oldsOf, List.length_map, List.length_map]; omega) (by rw [List.length_map, oldsOf, List.length_map, List.length_map]; omega), Option.bind_some, cm_sk, cm_sk]
      by_cases z3 : indepB (oldsOf (p.map (fun x_ : S47 => ((x_.f0, x_.f1, x_.f2) : Hk)))) (oldsOf (q.map (fun x_ : S47 => ((x_.f0, x_.f1, x_.f2) : Hk)))) = true
      · rw [if_pos z3, if_pos z3, Option.bind_some, cm_shift k (by omega) p q ip iq _ (by rw [List.length_map, oldsOf, List.length_map, List.length_map]) 1 (.inl rfl), Option.bind_some, cm_sk, tp_fit, Option.bind_some]
        rw [show shiftBy (p.map (fun x_ : S47 => ((x_.f0, x_.f1, x_.f2) : Hk))) (q.map (fun x_ : S47 => ((x_.f0, x_.f1, x_.f2) : Hk))) (oldsOf (q.map (fun x_ : S47 => ((x_.f0, x_.f1, x_.f2) : Hk)))) 1 = commB (p.map (fun x_ : S47 => ((x_.f0, x_.f1, x_.f2) : Hk))) (q.map (fun x_ : S47 => ((x_.f0, x_.f1, x_.f2) : Hk))) from rfl]
        unfold tp_res
        rw [tp_map]
        by_cases z4 : patchFault (commB (p.map (fun x_ : S47 => ((x_.f0, x_.f1, x_.f2) : Hk))) (q.map (fun x_ : S47 => ((x_.f0, x_.f1, x_.f2) : Hk)))) = (0, 0)
        · rw [if_pos z4, if_pos z4, if_neg (by simp)]
        · rw [if_neg z4, if_neg z4, if_pos (by simp)]
          rfl
      · rw [if_neg z3, if_neg z3]
        rfl
    · have e := (patchFault_or (q.map (fun x_ : S47 => ((x_.f0, x_.f1, x_.f2) : Hk)))).resolve_left z2
      rw [if_neg z2, if_neg z2, if_pos (by simp)]
      rfl
  · have e := (patchFault_or (p.map (fun x_ : S47 => ((x_.f0, x_.f1, x_.f2) : Hk)))).resolve_left z1
    rw [if_neg z1, if_neg z1, if_pos (by simp [e])]
    rfl
theorem se_long {p : List Hk} {t : List ByteArray} (h1 : patchFault p = (0, 0)) (h2 : linesFault t = (0, 0)) (h3 : fitsAt t p) (h4 : 120 < (resAt t p 0).length) : applySpec p t = ([], 10, -1) := by
  unfold applySpec
  rw [if_pos h1, if_pos (by rw [h2]), apGo_fits t p 0 0 [] h3, if_pos (by simpa using h4)]
theorem se_j1 (xs ys : List ByteArray) (a b c d : Int) : changeforgelaw1_CommuteRebases.j1 39999 xs ys true a b c d = some true := by
  simp only [changeforgelaw1_CommuteRebases.j1, cm_exchanged 39998 (by omega), if_true, Option.bind_some]
theorem se_j0 (t : List ByteArray) (x y : Bool) (xs ys zs ws : List S47) : changeforgelaw1_CommuteRebases.j0 40000 t x y true xs ys zs ws = some true := by
  simp only [changeforgelaw1_CommuteRebases.j0, cm_exchanged 39999 (by omega), if_true, Option.bind_some]
theorem se_no (t : List ByteArray) (xs ys zs ws : List S47) : changeforgelaw1_CommuteRebases.j0 40000 t false false false xs ys zs ws = some true := by
  simp only [changeforgelaw1_CommuteRebases.j0, textpatch_Apply.f, Option.bind_some]
  rw [if_neg (by decide), if_neg (by decide), if_neg (by decide)]
  exact se_j1 _ _ _ _ _ _
theorem CommuteRebases : changeforgelaw1_CommuteRebases.Pure := by
  intro l0 l1 t h0 _ h1 _ h2 _ _
  refine ⟨40000, ?_⟩
  unfold changeforgelaw1_CommuteRebases.f
  rw [cm_reb 40000 (by omega) l0 l1, Option.bind_some, cm_reb 40000 (by omega) l1 l0, Option.bind_some]
  by_cases f1 : (rebSpec (l0.map (fun x_ : S47 => ((x_.f0, x_.f1, x_.f2) : Hk))) (l1.map (fun x_ : S47 => ((x_.f0, x_.f1, x_.f2) : Hk)))).2.2.1 = 0
  · rw [if_pos f1]
    by_cases f2 : (rebSpec (l1.map (fun x_ : S47 => ((x_.f0, x_.f1, x_.f2) : Hk))) (l0.map (fun x_ : S47 => ((x_.f0, x_.f1, x_.f2) : Hk)))).2.2.1 = 0
    · have al := reb_alike f1 f2
      rw [show ((rebSpec (l1.map (fun x_ : S47 => ((x_.f0, x_.f1, x_.f2) : Hk))) (l0.map (fun x_ : S47 => ((x_.f0, x_.f1, x_.f2) : Hk)))).2.2.1 != 0) = false by rw [f2]; rfl]
      by_cases c : (rebSpec (l0.map (fun x_ : S47 => ((x_.f0, x_.f1, x_.f2) : Hk))) (l1.map (fun x_ : S47 => ((x_.f0, x_.f1, x_.f2) : Hk)))).2.1 = true
      · have c' : (rebSpec (l1.map (fun x_ : S47 => ((x_.f0, x_.f1, x_.f2) : Hk))) (l0.map (fun x_ : S47 => ((x_.f0, x_.f1, x_.f2) : Hk)))).2.1 = true := al ▸ c
        obtain ⟨L, hs, e1, e2, z1, z2, z3, e⟩ := reb_yes c
        obtain ⟨e', z4⟩ := reb_val c'
        rw [e, e'] 
        have eb : commB (l1.map (fun x_ : S47 => ((x_.f0, x_.f1, x_.f2) : Hk))) (l0.map (fun x_ : S47 => ((x_.f0, x_.f1, x_.f2) : Hk))) = rightsS 0 L := by
          have := commB_mix (sepM_swp L 0 hs)
          rw [swp_swp] at this
          rw [e1, e2]
          exact this
        rw [eb] at z4 ⊢
        simp only [changeforgelaw1_CommuteRebases.j0, textpatch_Apply.f, Option.bind_some]
        rw [if_neg (by decide), if_neg (by decide), if_pos trivial, tp_map, tp_map]
        by_cases cs : (applySpec (l1.map (fun x_ : S47 => ((x_.f0, x_.f1, x_.f2) : Hk))) t).2.1 = 0
        · rw [if_pos cs]
          obtain ⟨a1, a2, a3, a4, a5⟩ := apply_zero cs
          rw [a5]
          simp only []
          by_cases ct : (applySpec (l0.map (fun x_ : S47 => ((x_.f0, x_.f1, x_.f2) : Hk))) t).2.1 = 0
          · rw [if_pos ct]
            obtain ⟨b1, b2, b3, b4, b5⟩ := apply_zero ct
            rw [b5]
            simp only []
            by_cases cu : (applySpec (rightsS 0 (swp L)) (resAt t (l1.map (fun x_ : S47 => ((x_.f0, x_.f1, x_.f2) : Hk))) 0)).2.1 = 10
            · rw [if_pos cu]; exact se_j1 _ _ _ _ _ _
            · rw [if_neg cu]
              rw [e1] at b3 b4 ⊢
              rw [e2] at a3 a4 cu ⊢
              obtain ⟨fb, fa, fe⟩ := reb_both hs b3 a3
              have la : linesFault (resAt t (lefts (swp L)) 0) = (0, 0) := linesFault_ok.2 ⟨a4, res_lines t (linesFault_ok.1 a2).2 _ _ _ (by rw [← e2]; exact (patchFault_ok.1 z2).2)⟩
              have lb : linesFault (resAt t (lefts L) 0) = (0, 0) := linesFault_ok.2 ⟨b4, res_lines t (linesFault_ok.1 a2).2 _ _ _ (by rw [← e1]; exact (patchFault_ok.1 z1).2)⟩
              have ll : (resAt (resAt t (lefts (swp L)) 0) (rightsS 0 (swp L)) 0).length ≤ 120 := by
                refine Nat.le_of_not_lt (fun h => cu ?_)
                rw [se_long z3 la fa h]
              rw [apply_good z3 la fa ll, apply_good z4 lb fb (by rw [← fe]; exact ll), fe]
              simp only [changeforgelaw1_CommuteRebases.j1, changeforgeequal_Strings.f, Option.bind_some]
              rw [if_neg (by decide), if_pos trivial, if_pos trivial, if_pos (by simp), cm_exchanged 39998 (by omega)]
              rfl
          · rw [if_neg ct]; exact se_j1 _ _ _ _ _ _
        · rw [if_neg cs]; exact se_j1 _ _ _ _ _ _
      · have c : (rebSpec (l0.map (fun x_ : S47 => ((x_.f0, x_.f1, x_.f2) : Hk))) (l1.map (fun x_ : S47 => ((x_.f0, x_.f1, x_.f2) : Hk)))).2.1 = false := by simpa using c
        rw [← al, c]
        exact se_no _ _ _ _ _
    · rw [show ((rebSpec (l1.map (fun x_ : S47 => ((x_.f0, x_.f1, x_.f2) : Hk))) (l0.map (fun x_ : S47 => ((x_.f0, x_.f1, x_.f2) : Hk)))).2.2.1 != 0) = true by simpa using f2]
      exact se_j0 _ _ _ _ _ _ _
  · rw [if_neg f1]
    exact se_j0 _ _ _ _ _ _ _
end Go.Proofs.Ytdnnkhogpobjbaa.Pure
