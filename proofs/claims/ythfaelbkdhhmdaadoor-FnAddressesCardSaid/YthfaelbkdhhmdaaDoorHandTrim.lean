-- This text was written by hand (wip/hand/Trim.lean); Lean checks it.
import Derived.Test.YthfaelbkdhhmdaaDoorProg
import Derived.Below
import Derived.Deep.Draws
import Derived.Deep.AppendLies
import Derived.Maps.AppendAt
import Derived.OwnWalk
import Derived.Laws.BytesArg
import Derived.Laws.MakeOwn
import Derived.Laws.OwnMore
import Derived.Deep.OwnRows
import Derived.Tactics
import Derived.Lib.ConvBytes
import Derived.Laws.Slices
import Derived.WalkKit
import Derived.KernelRfl
import Derived.RowKit3
import Derived.Deep.LoopGhost
import Derived.Deep.QuietTactic
import Derived.BigQuiet
import Derived.WideLaws
import Derived.Deep.DeepCutAuto
import Derived.Deep.CutBlock
import Derived.Deep.RegionHeld3
import Derived.Laws.Rows
import Derived.Lib.AppendStr
import Derived.ArgAppend
import Derived.Laws.IdiomCopy
import Derived.OrdersHeld
import Derived.Laws.BitsLemmas
import Derived.RowKit
import Derived.Test.YthfaelbkdhhmdaaDoorBase
import Derived.Test.YthfaelbkdhhmdaaDoorWWords
import Derived.Test.YthfaelbkdhhmdaaDoorWLast
import Derived.Test.YthfaelbkdhhmdaaDoorWTab
import Derived.Test.YthfaelbkdhhmdaaDoorWFour
import Derived.Test.YthfaelbkdhhmdaaDoorWQPut
import Derived.Test.YthfaelbkdhhmdaaDoorWApart
import Derived.Test.YthfaelbkdhhmdaaDoorWArr
import Derived.Test.YthfaelbkdhhmdaaDoorWZeros
import Derived.Test.YthfaelbkdhhmdaaDoorWFoot
import Derived.Test.YthfaelbkdhhmdaaDoorWKept
import Derived.Test.YthfaelbkdhhmdaaDoorWShare
import Derived.Test.YthfaelbkdhhmdaaDoorWN
import Derived.Test.YthfaelbkdhhmdaaDoorWFootNe
import Derived.Test.YthfaelbkdhhmdaaDoorWAt
import Derived.Test.YthfaelbkdhhmdaaDoorWEqStruct
import Derived.Test.YthfaelbkdhhmdaaDoorWRepsOne
import Derived.Test.YthfaelbkdhhmdaaDoorWInv
import Derived.Test.YthfaelbkdhhmdaaDoorWInvWords
import Derived.Test.YthfaelbkdhhmdaaDoorWGuard
import Derived.Test.YthfaelbkdhhmdaaDoorWNEv
import Derived.Test.YthfaelbkdhhmdaaDoorWMore
import Derived.Shelf.Strings.SlTrimAscii
import Derived.Test.YthfaelbkdhhmdaaDoorLayA
namespace Go.Proofs.YthfaelbkdhhmdaaDoor.Hand
open Go.RowKit Go.Proofs.YthfaelbkdhhmdaaDoorW.PrintWords Go.Proofs.YthfaelbkdhhmdaaDoorW.PrintLast Go.Proofs.YthfaelbkdhhmdaaDoorW.PrintMore
attribute [local go_sem] max2_int min2_int max_two min_two max_three min_three max_four min_four   -- for this text's walks alone
set_option linter.unusedVariables false
set_option linter.unusedSimpArgs false

-- import Derived.Shelf.Strings.SlTrimAscii
-- import Derived.Test.YthfaelbkdhhmdaaDoorLayA
/-! ### strings.Trim at a cutset of ASCII bytes: by the shelf's contract -/
def strings_Trim.f (a0 : ByteArray) (a1 : ByteArray) : Option (ByteArray) :=
  if a0.size ≤ 4611686018427387904 then (if a1.size ≤ 1000 then (if a1.data.toList.all (fun b => decide (b.toNat < 128)) = true then some (⟨(Lib.trimS a0.data.toList a1.data.toList).toArray⟩ : ByteArray) else none) else none) else none
theorem info116 : (Tryd.prog.info? (Tryd.lays160_ren.t 116)).map (fun i => (i.zero, i.size)) = some (some (.agg (Array.replicate 256 (.bool false))), 256) := by kernel_rfl
theorem strings_Trim.calls (a0 : ByteArray) (a1 : ByteArray) (r : ByteArray) (w : World) (h : strings_Trim.f a0 a1 = some r) :
    Calls Tryd.prog 59 #[.string a0, .string a1] w fun e w' => e = .returned (.string r) ∧ Below w.heap.size w w' := by
  unfold strings_Trim.f at h
  by_cases c1 : a0.size ≤ 4611686018427387904
  · rw [if_pos c1] at h
    by_cases c2 : a1.size ≤ 1000
    · rw [if_pos c2] at h
      by_cases c3 : a1.data.toList.all (fun b => decide (b.toNat < 128)) = true
      · rw [if_pos c3] at h
        obtain rfl := Option.some.inj h
        exact Any.strings_Trim_laid Tryd.lays160 info116 a0 a1 w (by omega) (by omega) (ascii_of_all c3)
      · rw [if_neg c3] at h
        cases h
    · rw [if_neg c2] at h
      cases h
  · rw [if_neg c1] at h
    cases h

end Go.Proofs.YthfaelbkdhhmdaaDoor.Hand
