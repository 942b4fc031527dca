/- Printed by a program of this session out of the translation: Lean functions for Go functions, and proofs that the Go functions answer the same. -/
import Derived.Test.YtifkadmljokffaaProg
import Derived.Below
import Derived.Deep.Draws
import Derived.Deep.AppendLies
import Derived.Maps.AppendAt
import Derived.OwnWalk
import Derived.Laws.BytesArg
import Derived.Laws.MakeOwn
import Derived.Laws.OwnMore
import Derived.Deep.OwnRows
import Derived.Tactics
import Derived.Lib.ConvBytes
import Derived.Laws.Slices
import Derived.WalkKit
import Derived.KernelRfl
import Derived.RowKit3
import Derived.Deep.LoopGhost
import Derived.Deep.QuietTactic
import Derived.BigQuiet
import Derived.WideLaws
import Derived.Deep.DeepCutAuto
import Derived.Deep.CutBlock
import Derived.Deep.RegionHeld3
import Derived.Laws.Rows
import Derived.Lib.AppendStr
import Derived.ArgAppend
import Derived.Laws.IdiomCopy
import Derived.OrdersHeld
import Derived.Laws.BitsLemmas
import Derived.RowKit
import Derived.LoopN
import Derived.Test.YtifkadmljokffaaShelf
import Derived.Test.YtifkadmljokffaaPre
import Derived.RegionTactic
import Derived.Test.YtifkadmljokffaaWrd
import Derived.Test.YtifkadmljokffaaStl
import Derived.Test.YtifkadmljokffaaLcs
import Derived.Test.YtifkadmljokffaaWWords
import Derived.Test.YtifkadmljokffaaWLast
import Derived.Test.YtifkadmljokffaaWTab
import Derived.Test.YtifkadmljokffaaWFour
import Derived.Test.YtifkadmljokffaaWQPut
import Derived.Test.YtifkadmljokffaaWApart
import Derived.Test.YtifkadmljokffaaWArr
import Derived.Test.YtifkadmljokffaaWZeros
import Derived.Test.YtifkadmljokffaaWFoot
import Derived.Test.YtifkadmljokffaaWKept
import Derived.Test.YtifkadmljokffaaWShare
import Derived.Test.YtifkadmljokffaaWN
import Derived.Test.YtifkadmljokffaaWFootNe
import Derived.Test.YtifkadmljokffaaWAt
import Derived.Test.YtifkadmljokffaaWEqStruct
import Derived.Test.YtifkadmljokffaaWRepsOne
import Derived.Test.YtifkadmljokffaaWInv
import Derived.Test.YtifkadmljokffaaWInvWords
import Derived.Test.YtifkadmljokffaaWGuard
import Derived.Test.YtifkadmljokffaaWNEv
import Derived.Test.YtifkadmljokffaaWMore
namespace Go.Proofs.Ytifkadmljokffaa.PW
open Go.RowKit Go.Proofs.Ytifkadmljokffaa.Pre Go.Proofs.YtifkadmljokffaaW.PrintWords Go.Proofs.YtifkadmljokffaaW.PrintLast Go.Proofs.YtifkadmljokffaaW.PrintMore
attribute [local go_sem] max2_int min2_int max_two min_two max_three min_three max_four min_four   -- for this text's walks alone
set_option linter.unusedVariables false
set_option linter.unusedSimpArgs false



def errW : Option Int → Value
  | none => .nilIface
  | some c => .iface 0 (.int .i64 c)
theorem errW_none : errW none = .nilIface := rfl
theorem errW_some (c : Int) : errW (some c) = .iface 0 (.int .i64 c) := rfl

theorem info9 : (Try.prog.info? 9).map (fun i => (i.zero, i.size, i.bytes)) = some (some (.string ⟨#[]⟩), 1, 16) := by kernel_rfl
-- the values' own types

end Go.Proofs.Ytifkadmljokffaa.PW
