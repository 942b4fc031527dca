/- Printed by a program of this session out of the translation: Lean functions for Go functions, and proofs that the Go functions answer the same. -/
import Derived.Test.YtdefgagmgbkklaaPD0
import Derived.Test.YtdefgagmgbkklaaPD1
import Derived.Test.YtdefgagmgbkklaaPD3
namespace Go.Proofs.Ytdefgagmgbkklaa.PD
open Go.RowKit Go.Proofs.Ytdefgagmgbkklaa.Pre Go.Proofs.YtdefgagmgbkklaaW.PrintWords Go.Proofs.YtdefgagmgbkklaaW.PrintLast Go.Proofs.YtdefgagmgbkklaaW.PrintMore
attribute [local go_sem] max2_int min2_int max_two min_two max_three min_three max_four min_four   -- for this text's walks alone
set_option linter.unusedVariables false
set_option linter.unusedSimpArgs false

attribute [local go_sem high] eqA24
/-! ### changeforgeref1_DigestStrings: function 24 -/
theorem dof_bytes (s : ByteArray) (W : World) (c : Nat) (hc : s.size ≤ c) (r : Int) (h : changeforgeref1_DigestOf.f (bytesOf s) = some r) (hs : s.size ≤ maxLen) :
    Calls Try.prog 20 #[.slice (some ⟨W.heap.size, 0, none⟩) s.size c] (Lib.bytesWorld W 5 s) fun e w' => e = .returned (.int .i64 r) ∧ Below W.heap.size W w' := by
  have hr : Kd.C (Kd.int .u8) (Lib.bytesWorld W 5 s) (some ⟨W.heap.size, 0, none⟩) (bytesOf s).length (bytesOf s) := Kd.C_of_reads (enc := Value.int .u8) (d := (0 : Int)) (by rw [bytesOf_length]; exact bytes_reads W 5 s hs)
  have := changeforgeref1_DigestOf.calls (some ⟨W.heap.size, 0, none⟩) c (bytesOf s) r _ hr (by rw [bytesOf_length]; exact hc) h
  rw [bytesOf_length] at this
  exact this.mono (fun e w' ⟨he, hb⟩ => ⟨he, (bytes_below (Below.refl _ _) (Nat.le_refl _) 5 s).trans (hb.mono (by rw [Lib.bytesWorld_size]; omega))⟩)
def changeforgeref1_DigestStrings.f (l0 : List ByteArray) : Option (Int × Int × Int) :=  if ∀ s ∈ l0, s.size ≤ maxLen then some (digStrings l0) else none
set_option maxHeartbeats 2000000 in
set_option maxRecDepth 100000 in
theorem changeforgeref1_DigestStrings.calls (A0 : Option Addr) (c0 : Nat) (l0 : List ByteArray) (r1 : Int) (r2 : Int) (r3 : Int) (w : World) (hr0 : Kd.C Kd.string w A0 l0.length l0) (hc0 : l0.length ≤ c0) (h : changeforgeref1_DigestStrings.f l0 = some (r1, r2, r3)) :
    Calls Try.prog 24 #[.slice A0 l0.length c0] w fun e w' => e = .returned (.tuple #[.int .i64 r1, .agg #[.int .i64 r2, .int .i64 r3]]) ∧ Below w.heap.size w w' := by
  replace h : (if ∀ s ∈ l0, s.size ≤ maxLen then some (digStrings l0) else none) = some (r1, r2, r3) := h
  have hu_ := Try.underlying24
  obtain ⟨hsz, h⟩ : (∀ s ∈ l0, s.size ≤ maxLen) ∧ digStrings l0 = (r1, r2, r3) := by
    split at h
    · rename_i hs; exact ⟨hs, Option.some.inj h⟩
    · cases h
  unfold digStrings at h
  by_cases hl : 120 < l0.length
  · rw [if_pos hl] at h
    simp only [Prod.mk.injEq] at h
    obtain ⟨rfl, rfl, rfl⟩ := h
    have hl2 : decide ((120 : Int) < (l0.length : Int)) = true := decide_eq_true (by omega)
    go_enter Try.func24, Try.ntmps24
    go_wp2_with fail
    refine (changeforgeref1_At.calls 2 (-1) 2 (-1) _ rfl).mono ?_
    rintro e w3 ⟨rfl, hb3⟩
    have hk3 := blk_below (blk_new w (.cells #[.int .i64 0, .int .i64 0] 24)) hb3
    have hb4 : Below w.heap.size w w3 := (below_alloc (Below.refl _ _) _).trans (hb3.mono (by simp))
    obtain ⟨x0, x1, y0, y1, hlt⟩ := box_facts hk3
    go_wp2
    refine bodyPost_ret (results_tc rfl _ _ w.heap.size 24 #[.int .i64 2, .int .i64 (-1)] (0, 0) _ rfl (blk_put (cs := #[.int .i64 2, .int .i64 0]) (blk_put (cs := #[.int .i64 0, .int .i64 0]) hk3 0 _ rfl) 1 _ rfl) Try.underlying24 rfl (by kernel_rfl)) rfl ?_
    exact ⟨rfl, (hb4.setCell (Nat.le_refl _) _).setCell (Nat.le_refl _) _⟩
  · rw [if_neg hl] at h
    have hl2 : decide ((120 : Int) < (l0.length : Int)) = false := decide_eq_false (by omega)
    have kb := fun (s : ByteArray) W => print_bytes (P := Try.prog) 9 22 5 Try.underlying9 Try.underlying22 Try.underlying5 s W
    have HR := Aside0.mk hr0
    have HH := Aside0.mk h
    have HSZ := Aside0.mk hsz
    clear hr0 h hsz
    go_enter Try.func24, Try.ntmps24
    go_wp2_with fail
    have hbk := blk_new w (.cells #[.int .i64 0, .int .i64 0] 24)
    have hbe : Below w.heap.size w (w.alloc (.cells #[.int .i64 0, .int .i64 0] 24)) := below_alloc (Below.refl _ _) _
    generalize w.alloc (.cells #[.int .i64 0, .int .i64 0] 24) = W1 at *
    have HBK := Aside0.mk hbk
    have HBE := Aside0.mk hbe
    clear hbk hbe
    go_loopw [4, 5] (fun v4 v15 wr => ∃ (i : Nat) (g : Int), i ≤ l0.length ∧ v15 = .int .i64 i ∧ v4 = .int .i64 g ∧ Aside0 (0 ≤ g ∧ g < 2305843009213693951) ∧ Aside0 (dsGo (l0.drop i) i g = (r1, r2, r3)) ∧ Aside0 (wr.heap[w.heap.size]? = some (.cells #[.int .i64 0, .int .i64 0] 24 (0, 0))) ∧ Aside0 (Below w.heap.size w wr)) (fun v4 v15 wr => l0.length - (intOf v15).toNat)
    case atStart => exact ⟨0, 2, Nat.zero_le _, rfl, rfl, ⟨by decide, by decide⟩, HH, HBK, HBE⟩
    case round =>
      obtain ⟨i, g, hi, rfl, rfl, HG, HD, HK, HB⟩ := hrel
      by_cases hlt : i < l0.length
      · obtain ⟨ad, e0, hx⟩ := Kd.at_string HR.out (i : Int) (by omega) (by omega)
        cases e0
        rw [Int.toNat_natCast] at hx
        have hd := HD.out
        rw [dsGo_drop l0 i g hlt] at hd
        have hx2 : wr.cell? (ad.add i) = some (.string (rdOf ByteArray.empty l0 (i : Int))) := (HB.out.cell (World.block_lt_of_cell? w _ hx)).trans hx
        have hss : (rdOf ByteArray.empty l0 (i : Int)).size ≤ maxLen := by rw [rdOf_at _ _ _ hlt]; exact HSZ.out _ (List.getElem_mem hlt)
        generalize rdOf ByteArray.empty l0 (i : Int) = s at *
        have HSS := Aside0.mk hss
        clear hss
        have HD2 := Aside0.mk hd
        clear hx hd HD
        by_cases hc : 4096 < s.size
        · have hd := HD2.out
          have hc2 : decide ((4096 : Int) < (s.size : Int)) = true := decide_eq_true (by omega)
          rw [if_pos hc] at hd
          simp only [Prod.mk.injEq] at hd
          obtain ⟨rfl, rfl, rfl⟩ := hd
          go_wp2_with fail
          refine (changeforgeref1_At.calls 2 i 2 i _ rfl).mono ?_
          rintro e w3 ⟨rfl, hb3⟩
          have HB3 := Aside0.mk (HB.out.trans (hb3.mono HB.out.size))
          have HK3 := Aside0.mk (blk_below HK.out hb3)
          clear hb3
          obtain ⟨x0, x1, y0, y1, hlt⟩ := box_facts HK3.out
          go_wp2
          refine bodyPost_ret (results_tc rfl _ _ w.heap.size 24 #[.int .i64 2, .int .i64 i] (0, 0) _ rfl (blk_put (cs := #[.int .i64 2, .int .i64 0]) (blk_put (cs := #[.int .i64 0, .int .i64 0]) HK3.out 0 _ rfl) 1 _ rfl) Try.underlying24 rfl (by kernel_rfl)) rfl ?_
          exact ⟨rfl, (HB3.out.setCell (Nat.le_refl _) _).setCell (Nat.le_refl _) _⟩
        · have hd := HD2.out
          rw [if_neg hc] at hd
          have hc2 : decide ((4096 : Int) < (s.size : Int)) = false := decide_eq_false (by omega)
          go_wp2_with fail
          refine (dof_bytes s wr _ (grownCap_ge _ _ _ _) (dig (bytesOf s)) ?_ ?_).mono ?_
          · unfold changeforgeref1_DigestOf.f; have := HSS.out; rw [bytesOf_length, if_pos ⟨by omega, bytesOk_bytesOf s⟩]
          · exact HSS.out
          rintro e w3 ⟨rfl, hb3⟩
          have HB3 := Aside0.mk (HB.out.trans (hb3.mono HB.out.size))
          have HK3 := Aside0.mk (blk_below HK.out hb3)
          have HD3 := Aside0.mk hd
          clear hb3 hd
          go_wp2_with fail
          refine (changeforgeref1_DigestPair.calls g (dig (bytesOf s)) (digPair g (dig (bytesOf s))) _ ?_).mono ?_
          · unfold changeforgeref1_DigestPair.f; rw [if_pos ⟨HG.out, dig_range (bytesOf s)⟩]
          rintro e w4 ⟨rfl, hb4⟩
          go_wp2
          go_roundw
          case rel => 
            refine ⟨i + 1, _, by omega, by go_num, rfl, ⟨digPair_range _ _⟩, HD3, ?_, ?_⟩
            · exact ⟨blk_below HK3.out hb4⟩
            · exact ⟨HB3.out.trans (hb4.mono HB3.out.size)⟩
          case measure => simp [intOf]; omega
      · obtain rfl : i = l0.length := by omega
        have hd := HD.out
        rw [List.drop_length, dsGo] at hd
        simp only [Prod.mk.injEq] at hd
        obtain ⟨rfl, rfl, rfl⟩ := hd
        obtain ⟨x0, x1, y0, y1, hlt⟩ := box_facts HK.out
        go_wp2
        refine bodyPost_ret (results_tc rfl _ _ w.heap.size 24 #[.int .i64 0, .int .i64 0] (0, 0) _ rfl (blk_put (cs := #[.int .i64 0, .int .i64 0]) (blk_put (cs := #[.int .i64 0, .int .i64 0]) HK.out 0 _ rfl) 1 _ rfl) Try.underlying24 rfl (by kernel_rfl)) rfl ?_
        exact ⟨rfl, (HB.out.setCell (Nat.le_refl _) _).setCell (Nat.le_refl _) _⟩


end Go.Proofs.Ytdefgagmgbkklaa.PD
