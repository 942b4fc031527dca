/- Printed by a program of this session out of the translation: Lean functions for Go functions, and proofs that the Go functions answer the same. -/
import Derived.Test.YtifkadmljokffaaRows
import Derived.Test.YtifkadmljokffaaPB7
import Derived.Test.YtifkadmljokffaaPureDiffMatchesSpec
import Derived.Test.YtifkadmljokffaaOp
import Derived.WalkKit
import Derived.ProofKit
import Derived.OpenShut
import Derived.ShutString
import Derived.ChangeOld
import Derived.Below
import Derived.SizedLaws
namespace Go.Proofs.Ytifkadmljokffaa.diffMatchesSpec
open Go.ChangeShapes Go.WideShapes Go.ChangeAt Go.RowKit Go.Proofs.Ytifkadmljokffaa Go.Proofs.Ytifkadmljokffaa.PB Go.Proofs.YtifkadmljokffaaW.PrintWords
open Go.ChangeMaps (open_string shut_string)
set_option linter.unusedVariables false
theorem own : ownKnob Try.prog.godebug = none := by kernel_rfl
theorem laidOut : laidOutB Try.prog = true := by kernel_rfl
set_option maxRecDepth 100000 in
theorem lifted (os : Os) (started : os.Started) (H : Type) (enc : TypeId × Value → H) :
    ReturnsInHanded {} Try.checked os 6 .any (Rows.diffMatchesSpecSpec.pre6 enc Try.prog Try.f6 Rows.diffMatchesSpecRow.domain false) (Rows.diffMatchesSpecSpec.post enc Try.prog Try.f6 false true false false) := by
  refine returnsInHanded_of_change_sized (C := Try.checked) own started (by kernel_rfl) Try.func6
    (ChangeSpec.witness6 (enc := enc) (C := Try.checked) false ⟨#[], #[.slice none 0 0, .slice none 0 0], []⟩ 8 (by kernel_rfl) (by kernel_rfl) (by kernel_rfl) (by kernel_rfl)) ?_
  intro W base args ds gs before hval0 hW hcnd hsz0 _
  have hsz : (DataW.weightsEach Try.prog (Try.f6.params.toList ++ Rows.diffMatchesSpecSpec.plain.varTypes Try.prog) (ds ++ gs)).all (· ≤ reachBytes) = true := hsz0
  have hval : ∀ (j : Nat) t v, Try.f6.params[j]? = some t → args[j]? = some v → Value.okWide Try.prog W .any base t v := hval0
  have hW' := hW
  obtain ⟨p, q, hA0, hV, rfl, hfz, hnd⟩ := hW
  have hA : DataW.TrodAll enc Try.prog W 0 (fun _ => true) true Try.f6.params.toList args.toList ds p := hA0
  rw [Try.params6] at hA hval hsz
  obtain ⟨v0, vs0, d0, ds0, p0, q0, hargs, rfl, rfl, h0, r0⟩ := trodAll_cons hA
  obtain ⟨v1, vs1, d1, ds1, p1, q1, rfl, rfl, rfl, h1, r1⟩ := trodAll_cons r0
  obtain ⟨rfl, rfl, rfl⟩ := trodAll_nil r1
  obtain rfl : args = #[v0, v1] := by cases args; simp_all
  obtain ⟨rfl, rfl⟩ := trodVars_none hV
  have lt0 : ∀ x ∈ p0, x.block < W.heap.size := by obtain ⟨m, hm⟩ := h0; exact DataW.trod_lt m _ _ _ hm
  obtain ⟨A0, c0, l0, rfl, hc0, hr0, hm0, he0⟩ := Op.param_slice (G := fun x : ByteArray => x.size ≤ maxLen) Try.underlying22 (by kernel_rfl) (Op.opens_string Try.underlying9) (hval 0 22 v0 rfl rfl) h0
  have hs0 : l0.length * 16 ≤ 140737488351232 := Op.param_sized hsz (j := 0) (t := 22) rfl rfl Try.underlying22 (by kernel_rfl) h0
  have lt1 : ∀ x ∈ p1, x.block < W.heap.size := by obtain ⟨m, hm⟩ := h1; exact DataW.trod_lt m _ _ _ hm
  obtain ⟨A1, c1, l1, rfl, hc1, hr1, hm1, he1⟩ := Op.param_slice (G := fun x : ByteArray => x.size ≤ maxLen) Try.underlying22 (by kernel_rfl) (Op.opens_string Try.underlying9) (hval 1 22 v1 rfl rfl) h1
  have hs1 : l1.length * 16 ≤ 140737488351232 := Op.param_sized hsz (j := 1) (t := 22) rfl rfl Try.underlying22 (by kernel_rfl) h1
  clear hA0 hval0 hsz0 hsz
  refine (PB.changeforgelaw1_DiffMatchesSpec.walk Pure.DiffMatchesSpec A0 c0 l0 A1 c1 l1 W hr0 hc0 hm0 hs0 he0 hr1 hc1 hm1 hs1 he1).mono fun e W' ⟨he, bel⟩ => ?_
  subst he
  exact ⟨_, rfl, _, _, _, [], _, [], hW', trodAll_mk1 (shut_bool Try.underlying4 _), (trodAll_cons_mk (Below.trod laidOut (by kernel_rfl) (of_decide_eq_true (by kernel_rfl)) h0 bel lt0) (trodAll_cons_mk (Below.trod laidOut (by kernel_rfl) (of_decide_eq_true (by kernel_rfl)) h1 bel lt1) trodAll_mk0)), rfl, bel.frame _, fun h => by cases h⟩
theorem over : Rows.diffMatchesSpecRow.holds Try.pinned (OpenSpec.ofChange Rows.diffMatchesSpecSpec) :=
  OpenClaim.holds_of_wide 6 Try.f6 rfl rfl rfl rfl rfl rfl rfl ⟨rfl, rfl, rfl, rfl, rfl⟩ rfl rfl rfl rfl rfl (by kernel_rfl) Try.func6 (by kernel_rfl)
    (of_decide_eq_true (by kernel_rfl)) (by unfold Func.isWrapper; first | (rw [if_pos (by decide +kernel)]; kernel_rfl) | (rw [if_neg (by decide +kernel)]; exact ⟨rfl, rfl⟩))
    (fun os started H enc _ => lifted os started H enc)
theorem proved : Rows.DiffMatchesSpecSaid := over
#print axioms proved
end Go.Proofs.Ytifkadmljokffaa.diffMatchesSpec
namespace Go.Proofs.Ytifkadmljokffaa
/-- The row, under a short name, for the claim. -/
theorem diffMatchesSpec_holds : Rows.DiffMatchesSpecSaid := diffMatchesSpec.proved
end Go.Proofs.Ytifkadmljokffaa
