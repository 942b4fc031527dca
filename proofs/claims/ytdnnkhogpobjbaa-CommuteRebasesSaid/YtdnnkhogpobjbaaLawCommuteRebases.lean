/- Printed by a program of this session out of the translation: Lean functions for Go functions, and proofs that the Go functions answer the same. -/
import Derived.Test.YtdnnkhogpobjbaaRows
import Derived.Test.YtdnnkhogpobjbaaPQ8
import Derived.Test.YtdnnkhogpobjbaaPureCommuteRebases
import Derived.Test.YtdnnkhogpobjbaaOp
import Derived.WalkKit
import Derived.ProofKit
import Derived.OpenShut
import Derived.ShutString
import Derived.ChangeOld
import Derived.Below
import Derived.SizedLaws
namespace Go.Proofs.Ytdnnkhogpobjbaa.commuteRebases
open Go.ChangeShapes Go.WideShapes Go.ChangeAt Go.RowKit Go.Proofs.Ytdnnkhogpobjbaa Go.Proofs.Ytdnnkhogpobjbaa.PQ Go.Proofs.YtdnnkhogpobjbaaW.PrintWords
open Go.ChangeMaps (open_string shut_string)
set_option linter.unusedVariables false
theorem own : ownKnob Try.prog.godebug = none := by kernel_rfl
theorem laidOut : laidOutB Try.prog = true := by kernel_rfl
attribute [local irreducible] Op.Opens Op.OpensFs
theorem opens47 : Op.Opens Try.prog 47 k47 (fun x : S47 => ((Lit.int .i64 x.f0).wf = true) ∧ ((x.f1.length ≤ maxLen ∧ ∀ yxf1 ∈ x.f1, yxf1.size ≤ maxLen) ∧ ((x.f2.length ≤ maxLen ∧ ∀ yxf2 ∈ x.f2, yxf2.size ≤ maxLen)))) := by
  have h := Op.opens_struct (P := Try.prog) (t := 47) (d := (Kd.pair (Kd.int .i64) (Kd.pair (Kd.slice 9 Kd.string) (Kd.slice 9 Kd.string)))) (f := fun x : S47 => (x.f0, x.f1, x.f2)) (fun p => ⟨p.1, p.2.1, p.2.2⟩) (fun _ => rfl) Try.underlying47 (by kernel_rfl) (Op.opensFs_cons (by kernel_rfl) (Op.opens_int Try.underlying3) (Op.opensFs_cons (by kernel_rfl) (Op.opens_slice Try.underlying25 (by kernel_rfl) (Op.opens_string Try.underlying9)) (Op.opensFs_last (by kernel_rfl) (Op.opens_slice Try.underlying25 (by kernel_rfl) (Op.opens_string Try.underlying9)))))
  exact h
structure S24 where
  f0 : List (S47)
def k24 : Kd S24 := Kd.iso (Kd.slice 47 k47) (fun x : S24 => x.f0)
theorem k24_open {w : World} {x : S24} {cs : List Value} (h : k24.K w x cs) : ∃ A0 c0, cs = [.slice A0 x.f0.length c0] ∧ x.f0.length ≤ c0 ∧ k47.C w A0 x.f0.length x.f0 := by
  obtain ⟨A0, c0, rfl, l0, g0⟩ := h
  exact ⟨A0, c0, rfl, l0, g0⟩
theorem opens24 : Op.Opens Try.prog 24 k24 (fun x : S24 => (x.f0.length ≤ maxLen ∧ ∀ yxf0 ∈ x.f0, ((Lit.int .i64 yxf0.f0).wf = true) ∧ ((yxf0.f1.length ≤ maxLen ∧ ∀ yyxf0f1 ∈ yxf0.f1, yyxf0f1.size ≤ maxLen) ∧ ((yxf0.f2.length ≤ maxLen ∧ ∀ yyxf0f2 ∈ yxf0.f2, yyxf0f2.size ≤ maxLen))))) := by
  have h := Op.opens_struct (P := Try.prog) (t := 24) (d := (Kd.slice 47 k47)) (f := fun x : S24 => x.f0) (fun p => ⟨p⟩) (fun _ => rfl) Try.underlying24 (by kernel_rfl) (Op.opensFs_last (by kernel_rfl) (Op.opens_slice Try.underlying22 (by kernel_rfl) opens47))
  exact h
set_option maxRecDepth 100000 in
theorem lifted (os : Os) (started : os.Started) (H : Type) (enc : TypeId × Value → H) :
    ReturnsInHanded {} Try.checked os 13 .any (Rows.commuteRebasesSpec.pre6 enc Try.prog Try.f13 Rows.commuteRebasesRow.domain false) (Rows.commuteRebasesSpec.post enc Try.prog Try.f13 false true false false) := by
  refine returnsInHanded_of_change_sized (C := Try.checked) own started (by kernel_rfl) Try.func13
    (ChangeSpec.witness6 (enc := enc) (C := Try.checked) false ⟨#[], #[.agg #[.slice none 0 0], .agg #[.slice none 0 0], .slice none 0 0], []⟩ 8 (by kernel_rfl) (by kernel_rfl) (by kernel_rfl) (by kernel_rfl)) ?_
  intro W base args ds gs before hval0 hW hcnd hsz0 _
  have hsz : (DataW.weightsEach Try.prog (Try.f13.params.toList ++ Rows.commuteRebasesSpec.plain.varTypes Try.prog) (ds ++ gs)).all (· ≤ reachBytes) = true := hsz0
  have hval : ∀ (j : Nat) t v, Try.f13.params[j]? = some t → args[j]? = some v → Value.okWide Try.prog W .any base t v := hval0
  have hW' := hW
  obtain ⟨p, q, hA0, hV, rfl, hfz, hnd⟩ := hW
  have hA : DataW.TrodAll enc Try.prog W 0 (fun _ => true) true Try.f13.params.toList args.toList ds p := hA0
  rw [Try.params13] at hA hval hsz
  obtain ⟨v0, vs0, d0, ds0, p0, q0, hargs, rfl, rfl, h0, r0⟩ := trodAll_cons hA
  obtain ⟨v1, vs1, d1, ds1, p1, q1, rfl, rfl, rfl, h1, r1⟩ := trodAll_cons r0
  obtain ⟨v2, vs2, d2, ds2, p2, q2, rfl, rfl, rfl, h2, r2⟩ := trodAll_cons r1
  obtain ⟨rfl, rfl, rfl⟩ := trodAll_nil r2
  obtain rfl : args = #[v0, v1, v2] := by cases args; simp_all
  obtain ⟨rfl, rfl⟩ := trodVars_none hV
  have lt0 : ∀ x ∈ p0, x.block < W.heap.size := by obtain ⟨m, hm⟩ := h0; exact DataW.trod_lt m _ _ _ hm
  obtain ⟨cs0, s0, rfl, hK0, hg0⟩ := Op.param_struct Try.underlying24 opens24 (hval 0 24 v0 rfl rfl) h0
  obtain ⟨A0_0, c0_0, hcs0, hc0_0, hr0_0⟩ := k24_open hK0
  obtain rfl : cs0 = #[.slice A0_0 s0.f0.length c0_0] := Array.toList_inj.mp hcs0
  have lt1 : ∀ x ∈ p1, x.block < W.heap.size := by obtain ⟨m, hm⟩ := h1; exact DataW.trod_lt m _ _ _ hm
  obtain ⟨cs1, s1, rfl, hK1, hg1⟩ := Op.param_struct Try.underlying24 opens24 (hval 1 24 v1 rfl rfl) h1
  obtain ⟨A1_0, c1_0, hcs1, hc1_0, hr1_0⟩ := k24_open hK1
  obtain rfl : cs1 = #[.slice A1_0 s1.f0.length c1_0] := Array.toList_inj.mp hcs1
  have lt2 : ∀ x ∈ p2, x.block < W.heap.size := by obtain ⟨m, hm⟩ := h2; exact DataW.trod_lt m _ _ _ hm
  obtain ⟨A2, c2, l2, rfl, hc2, hr2, hm2, he2⟩ := Op.param_slice (G := fun x : ByteArray => x.size ≤ maxLen) Try.underlying25 (by kernel_rfl) (Op.opens_string Try.underlying9) (hval 2 25 v2 rfl rfl) h2
  have hs2 : l2.length * 16 ≤ 140737488351232 := Op.param_sized hsz (j := 2) (t := 25) rfl rfl Try.underlying25 (by kernel_rfl) h2
  clear hA0 hval0 hsz0 hsz
  refine (PQ.changeforgelaw1_CommuteRebases.walk Pure.CommuteRebases A0_0 c0_0 s0.f0 A1_0 c1_0 s1.f0 A2 c2 l2 W hr0_0 hc0_0 (hg0).1 (hg0).2 hr1_0 hc1_0 (hg1).1 (hg1).2 hr2 hc2 hm2 hs2 he2).mono fun e W' ⟨he, bel⟩ => ?_
  subst he
  exact ⟨_, rfl, _, _, _, [], _, [], hW', trodAll_mk1 (shut_bool Try.underlying4 _), (trodAll_cons_mk (Below.trod laidOut (by kernel_rfl) (of_decide_eq_true (by kernel_rfl)) h0 bel lt0) (trodAll_cons_mk (Below.trod laidOut (by kernel_rfl) (of_decide_eq_true (by kernel_rfl)) h1 bel lt1) (trodAll_cons_mk (Below.trod laidOut (by kernel_rfl) (of_decide_eq_true (by kernel_rfl)) h2 bel lt2) trodAll_mk0))), rfl, bel.frame _, fun h => by cases h⟩
theorem over : Rows.commuteRebasesRow.holds Try.pinned (OpenSpec.ofChange Rows.commuteRebasesSpec) :=
  OpenClaim.holds_of_wide 13 Try.f13 rfl rfl rfl rfl rfl rfl rfl ⟨rfl, rfl, rfl, rfl, rfl⟩ rfl rfl rfl rfl rfl (by kernel_rfl) Try.func13 (by kernel_rfl)
    (of_decide_eq_true (by kernel_rfl)) (by unfold Func.isWrapper; first | (rw [if_pos (by decide +kernel)]; kernel_rfl) | (rw [if_neg (by decide +kernel)]; exact ⟨rfl, rfl⟩))
    (fun os started H enc _ => lifted os started H enc)
theorem proved : Rows.CommuteRebasesSaid := over
#print axioms proved
end Go.Proofs.Ytdnnkhogpobjbaa.commuteRebases
namespace Go.Proofs.Ytdnnkhogpobjbaa
/-- The row, under a short name, for the claim. -/
theorem commuteRebases_holds : Rows.CommuteRebasesSaid := commuteRebases.proved
end Go.Proofs.Ytdnnkhogpobjbaa
