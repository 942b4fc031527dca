/- Printed by a program of this session out of the translation: Lean functions for Go functions, and proofs that the Go functions answer the same. -/
import Derived.Test.YtdefgagmgbkklaaProg
import Derived.Below
import Derived.Deep.Draws
import Derived.Deep.AppendLies
import Derived.Maps.AppendAt
import Derived.OwnWalk
import Derived.Laws.BytesArg
import Derived.Laws.MakeOwn
import Derived.Laws.OwnMore
import Derived.Deep.OwnRows
import Derived.Tactics
import Derived.Lib.ConvBytes
import Derived.Laws.Slices
import Derived.WalkKit
import Derived.KernelRfl
import Derived.RowKit3
import Derived.Deep.LoopGhost
import Derived.Deep.QuietTactic
import Derived.BigQuiet
import Derived.WideLaws
import Derived.Deep.DeepCutAuto
import Derived.Deep.CutBlock
import Derived.Deep.RegionHeld3
import Derived.Laws.Rows
import Derived.Lib.AppendStr
import Derived.ArgAppend
import Derived.Laws.IdiomCopy
import Derived.OrdersHeld
import Derived.Laws.BitsLemmas
import Derived.RowKit
import Derived.LoopN
import Derived.Test.YtdefgagmgbkklaaShelf
import Derived.Test.YtdefgagmgbkklaaPre
import Derived.RegionTactic
import Derived.Test.YtdefgagmgbkklaaBld
import Derived.RangeFuncNested
import Derived.RangeFuncBound
import Derived.RangeFuncCalls
import Derived.RangeFuncLeaves
import Derived.RangeFuncBox
import Derived.Shelf.Abstract
import Derived.WalkKit
import Derived.OwnWalkIn
import Derived.TacticsInMore
import Derived.LoopNIn
import Derived.LoopIn
import Derived.RegionIn
import Derived.Stop.RegionWithIn
import Derived.Maps.AppendAt
import Derived.Test.YtdefgagmgbkklaaCmn
import Derived.Test.YtdefgagmgbkklaaSht
import Derived.Test.YtdefgagmgbkklaaPak
import Derived.Test.YtdefgagmgbkklaaWWords
import Derived.Test.YtdefgagmgbkklaaWLast
import Derived.Test.YtdefgagmgbkklaaWTab
import Derived.Test.YtdefgagmgbkklaaWFour
import Derived.Test.YtdefgagmgbkklaaWQPut
import Derived.Test.YtdefgagmgbkklaaWApart
import Derived.Test.YtdefgagmgbkklaaWArr
import Derived.Test.YtdefgagmgbkklaaWZeros
import Derived.Test.YtdefgagmgbkklaaWFoot
import Derived.Test.YtdefgagmgbkklaaWKept
import Derived.Test.YtdefgagmgbkklaaWShare
import Derived.Test.YtdefgagmgbkklaaWN
import Derived.Test.YtdefgagmgbkklaaWFootNe
import Derived.Test.YtdefgagmgbkklaaWAt
import Derived.Test.YtdefgagmgbkklaaWEqStruct
import Derived.Test.YtdefgagmgbkklaaWRepsOne
import Derived.Test.YtdefgagmgbkklaaWInv
import Derived.Test.YtdefgagmgbkklaaWInvWords
import Derived.Test.YtdefgagmgbkklaaWGuard
import Derived.Test.YtdefgagmgbkklaaWNEv
import Derived.Test.YtdefgagmgbkklaaWMore
namespace Go.Proofs.Ytdefgagmgbkklaa.PC
open Go.RowKit Go.Proofs.Ytdefgagmgbkklaa.Pre Go.Proofs.YtdefgagmgbkklaaW.PrintWords Go.Proofs.YtdefgagmgbkklaaW.PrintLast Go.Proofs.YtdefgagmgbkklaaW.PrintMore
attribute [local go_sem] max2_int min2_int max_two min_two max_three min_three max_four min_four   -- for this text's walks alone
set_option linter.unusedVariables false
set_option linter.unusedSimpArgs false



def errW : Option Int → Value
  | none => .nilIface
  | some c => .iface 0 (.int .i64 c)
theorem errW_none : errW none = .nilIface := rfl
theorem errW_some (c : Int) : errW (some c) = .iface 0 (.int .i64 c) := rfl

theorem info9 : (Try.prog.info? 9).map (fun i => (i.zero, i.size, i.bytes)) = some (some (.string ⟨#[]⟩), 1, 16) := by kernel_rfl
-- the values' own types

end Go.Proofs.Ytdefgagmgbkklaa.PC
