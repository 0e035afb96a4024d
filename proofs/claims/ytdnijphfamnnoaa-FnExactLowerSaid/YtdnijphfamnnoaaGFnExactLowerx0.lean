-- This text was written by wip/gen.py, a program of this session; Lean checks it.
import Derived.Test.YtdnijphfamnnoaaProg
import Derived.Below
import Derived.Deep.Draws
import Derived.Deep.AppendLies
import Derived.Maps.AppendAt
import Derived.OwnWalk
import Derived.Laws.BytesArg
import Derived.Laws.MakeOwn
import Derived.Laws.OwnMore
import Derived.Deep.OwnRows
import Derived.Tactics
import Derived.Lib.ConvBytes
import Derived.Laws.Slices
import Derived.WalkKit
import Derived.KernelRfl
import Derived.RowKit3
import Derived.Deep.LoopGhost
import Derived.Deep.QuietTactic
import Derived.BigQuiet
import Derived.WideLaws
import Derived.Deep.DeepCutAuto
import Derived.Deep.CutBlock
import Derived.Deep.RegionHeld3
import Derived.Laws.Rows
import Derived.Lib.AppendStr
import Derived.ArgAppend
import Derived.Laws.IdiomCopy
import Derived.OrdersHeld
import Derived.Laws.BitsLemmas
import Derived.RowKit
import Derived.Test.YtdnijphfamnnoaaBase
import Derived.Test.YtdnijphfamnnoaaHandLower
import Derived.Test.YtdnijphfamnnoaaWWords
import Derived.Test.YtdnijphfamnnoaaWLast
import Derived.Test.YtdnijphfamnnoaaWTab
import Derived.Test.YtdnijphfamnnoaaWFour
import Derived.Test.YtdnijphfamnnoaaWQPut
import Derived.Test.YtdnijphfamnnoaaWApart
import Derived.Test.YtdnijphfamnnoaaWArr
import Derived.Test.YtdnijphfamnnoaaWZeros
import Derived.Test.YtdnijphfamnnoaaWFoot
import Derived.Test.YtdnijphfamnnoaaWKept
import Derived.Test.YtdnijphfamnnoaaWShare
import Derived.Test.YtdnijphfamnnoaaWN
import Derived.Test.YtdnijphfamnnoaaWFootNe
import Derived.Test.YtdnijphfamnnoaaWAt
import Derived.Test.YtdnijphfamnnoaaWEqStruct
import Derived.Test.YtdnijphfamnnoaaWRepsOne
import Derived.Test.YtdnijphfamnnoaaWInv
import Derived.Test.YtdnijphfamnnoaaWInvWords
import Derived.Test.YtdnijphfamnnoaaWGuard
import Derived.Test.YtdnijphfamnnoaaWNEv
import Derived.Test.YtdnijphfamnnoaaWMore
namespace Go.Proofs.Ytdnijphfamnnoaa.GFnExactLower
open Go.RowKit Go.Proofs.YtdnijphfamnnoaaW.PrintWords Go.Proofs.YtdnijphfamnnoaaW.PrintLast Go.Proofs.YtdnijphfamnnoaaW.PrintMore
attribute [local go_sem] max2_int min2_int max_two min_two max_three min_three max_four min_four   -- for this text's walks alone
set_option linter.unusedVariables false
set_option linter.unusedSimpArgs false



def errW : Option Int → Value
  | none => .nilIface
  | some c => .iface 0 (.int .i64 c)
theorem errW_none : errW none = .nilIface := rfl
theorem errW_some (c : Int) : errW (some c) = .iface 0 (.int .i64 c) := rfl

theorem info5 : (Try.prog.info? 5).map (fun i => (i.zero, i.size, i.bytes)) = some (some (.int .u8 0), 1, 1) := by kernel_rfl
-- the values' own types

end Go.Proofs.Ytdnijphfamnnoaa.GFnExactLower
