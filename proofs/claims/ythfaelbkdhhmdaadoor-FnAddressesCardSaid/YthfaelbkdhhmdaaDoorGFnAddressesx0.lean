-- This text was written by wip/gen.py, a program of this session; Lean checks it.
import Derived.Test.YthfaelbkdhhmdaaDoorProg
import Derived.Below
import Derived.Deep.Draws
import Derived.Deep.AppendLies
import Derived.Maps.AppendAt
import Derived.OwnWalk
import Derived.Laws.BytesArg
import Derived.Laws.MakeOwn
import Derived.Laws.OwnMore
import Derived.Deep.OwnRows
import Derived.Tactics
import Derived.Lib.ConvBytes
import Derived.Laws.Slices
import Derived.WalkKit
import Derived.KernelRfl
import Derived.RowKit3
import Derived.Deep.LoopGhost
import Derived.Deep.QuietTactic
import Derived.BigQuiet
import Derived.WideLaws
import Derived.Deep.DeepCutAuto
import Derived.Deep.CutBlock
import Derived.Deep.RegionHeld3
import Derived.Laws.Rows
import Derived.Lib.AppendStr
import Derived.ArgAppend
import Derived.Laws.IdiomCopy
import Derived.OrdersHeld
import Derived.Laws.BitsLemmas
import Derived.RowKit
import Derived.Test.YthfaelbkdhhmdaaDoorBase
import Derived.Test.YthfaelbkdhhmdaaDoorHandAtoi
import Derived.Test.YthfaelbkdhhmdaaDoorHandItoa
import Derived.Test.YthfaelbkdhhmdaaDoorHandLower
import Derived.Test.YthfaelbkdhhmdaaDoorHandSearch
import Derived.Test.YthfaelbkdhhmdaaDoorHandTrim
import Derived.Test.YthfaelbkdhhmdaaDoorWWords
import Derived.Test.YthfaelbkdhhmdaaDoorWLast
import Derived.Test.YthfaelbkdhhmdaaDoorWTab
import Derived.Test.YthfaelbkdhhmdaaDoorWFour
import Derived.Test.YthfaelbkdhhmdaaDoorWQPut
import Derived.Test.YthfaelbkdhhmdaaDoorWApart
import Derived.Test.YthfaelbkdhhmdaaDoorWArr
import Derived.Test.YthfaelbkdhhmdaaDoorWZeros
import Derived.Test.YthfaelbkdhhmdaaDoorWFoot
import Derived.Test.YthfaelbkdhhmdaaDoorWKept
import Derived.Test.YthfaelbkdhhmdaaDoorWShare
import Derived.Test.YthfaelbkdhhmdaaDoorWN
import Derived.Test.YthfaelbkdhhmdaaDoorWFootNe
import Derived.Test.YthfaelbkdhhmdaaDoorWAt
import Derived.Test.YthfaelbkdhhmdaaDoorWEqStruct
import Derived.Test.YthfaelbkdhhmdaaDoorWRepsOne
import Derived.Test.YthfaelbkdhhmdaaDoorWInv
import Derived.Test.YthfaelbkdhhmdaaDoorWInvWords
import Derived.Test.YthfaelbkdhhmdaaDoorWGuard
import Derived.Test.YthfaelbkdhhmdaaDoorWNEv
import Derived.Test.YthfaelbkdhhmdaaDoorWMore
namespace Go.Proofs.YthfaelbkdhhmdaaDoor.GFnAddresses
open Go.RowKit Go.Proofs.YthfaelbkdhhmdaaDoorW.PrintWords Go.Proofs.YthfaelbkdhhmdaaDoorW.PrintLast Go.Proofs.YthfaelbkdhhmdaaDoorW.PrintMore
attribute [local go_sem] max2_int min2_int max_two min_two max_three min_three max_four min_four   -- for this text's walks alone
set_option linter.unusedVariables false
set_option linter.unusedSimpArgs false



def errW : Option Int → Value
  | none => .nilIface
  | some c => .iface 0 (.int .i64 c)
theorem errW_none : errW none = .nilIface := rfl
theorem errW_some (c : Int) : errW (some c) = .iface 0 (.int .i64 c) := rfl

theorem info3 : (Tryd.prog.info? 3).map (fun i => (i.zero, i.size, i.bytes)) = some (some (.int .i64 0), 1, 8) := by kernel_rfl
theorem info5 : (Tryd.prog.info? 5).map (fun i => (i.zero, i.size, i.bytes)) = some (some (.int .u8 0), 1, 1) := by kernel_rfl
theorem info9 : (Tryd.prog.info? 9).map (fun i => (i.zero, i.size, i.bytes)) = some (some (.string ⟨#[]⟩), 1, 16) := by kernel_rfl
-- the values' own types

end Go.Proofs.YthfaelbkdhhmdaaDoor.GFnAddresses
