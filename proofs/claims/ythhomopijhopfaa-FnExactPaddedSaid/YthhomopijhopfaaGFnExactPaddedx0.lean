-- This text was written by wip/gen.py, a program of this session; Lean checks it.
import Derived.Test.YthhomopijhopfaaProg
import Derived.Below
import Derived.Deep.Draws
import Derived.Deep.AppendLies
import Derived.Maps.AppendAt
import Derived.OwnWalk
import Derived.Laws.BytesArg
import Derived.Laws.MakeOwn
import Derived.Laws.OwnMore
import Derived.Deep.OwnRows
import Derived.Tactics
import Derived.Lib.ConvBytes
import Derived.Laws.Slices
import Derived.WalkKit
import Derived.KernelRfl
import Derived.RowKit3
import Derived.Deep.LoopGhost
import Derived.Deep.QuietTactic
import Derived.BigQuiet
import Derived.WideLaws
import Derived.Deep.DeepCutAuto
import Derived.Deep.CutBlock
import Derived.Deep.RegionHeld3
import Derived.Laws.Rows
import Derived.Lib.AppendStr
import Derived.ArgAppend
import Derived.Laws.IdiomCopy
import Derived.OrdersHeld
import Derived.Laws.BitsLemmas
import Derived.RowKit
import Derived.Test.YthhomopijhopfaaBase
import Derived.Test.YthhomopijhopfaaHandInsert
import Derived.Test.YthhomopijhopfaaHandLower
import Derived.Test.YthhomopijhopfaaHandPlain
import Derived.Test.YthhomopijhopfaaHandRepeat
import Derived.Test.YthhomopijhopfaaWWords
import Derived.Test.YthhomopijhopfaaWLast
import Derived.Test.YthhomopijhopfaaWTab
import Derived.Test.YthhomopijhopfaaWFour
import Derived.Test.YthhomopijhopfaaWQPut
import Derived.Test.YthhomopijhopfaaWApart
import Derived.Test.YthhomopijhopfaaWArr
import Derived.Test.YthhomopijhopfaaWZeros
import Derived.Test.YthhomopijhopfaaWFoot
import Derived.Test.YthhomopijhopfaaWKept
import Derived.Test.YthhomopijhopfaaWShare
import Derived.Test.YthhomopijhopfaaWN
import Derived.Test.YthhomopijhopfaaWFootNe
import Derived.Test.YthhomopijhopfaaWAt
import Derived.Test.YthhomopijhopfaaWEqStruct
import Derived.Test.YthhomopijhopfaaWRepsOne
import Derived.Test.YthhomopijhopfaaWInv
import Derived.Test.YthhomopijhopfaaWInvWords
import Derived.Test.YthhomopijhopfaaWGuard
import Derived.Test.YthhomopijhopfaaWNEv
import Derived.Test.YthhomopijhopfaaWMore
namespace Go.Proofs.Ythhomopijhopfaa.GFnExactPadded
open Go.RowKit Go.Proofs.YthhomopijhopfaaW.PrintWords Go.Proofs.YthhomopijhopfaaW.PrintLast Go.Proofs.YthhomopijhopfaaW.PrintMore
attribute [local go_sem] max2_int min2_int max_two min_two max_three min_three max_four min_four   -- for this text's walks alone
set_option linter.unusedVariables false
set_option linter.unusedSimpArgs false



def errW : Option Int → Value
  | none => .nilIface
  | some c => .iface 0 (.int .i64 c)
theorem errW_none : errW none = .nilIface := rfl
theorem errW_some (c : Int) : errW (some c) = .iface 0 (.int .i64 c) := rfl

theorem info5 : (Try.prog.info? 5).map (fun i => (i.zero, i.size, i.bytes)) = some (some (.int .u8 0), 1, 1) := by kernel_rfl
-- the values' own types

end Go.Proofs.Ythhomopijhopfaa.GFnExactPadded
