-- This text was written by hand (wip/hand/Search.lean); Lean checks it.
import Derived.Test.YthfaelbkdhhmdaaDoorProg
import Derived.Below
import Derived.Deep.Draws
import Derived.Deep.AppendLies
import Derived.Maps.AppendAt
import Derived.OwnWalk
import Derived.Laws.BytesArg
import Derived.Laws.MakeOwn
import Derived.Laws.OwnMore
import Derived.Deep.OwnRows
import Derived.Tactics
import Derived.Lib.ConvBytes
import Derived.Laws.Slices
import Derived.WalkKit
import Derived.KernelRfl
import Derived.RowKit3
import Derived.Deep.LoopGhost
import Derived.Deep.QuietTactic
import Derived.BigQuiet
import Derived.WideLaws
import Derived.Deep.DeepCutAuto
import Derived.Deep.CutBlock
import Derived.Deep.RegionHeld3
import Derived.Laws.Rows
import Derived.Lib.AppendStr
import Derived.ArgAppend
import Derived.Laws.IdiomCopy
import Derived.OrdersHeld
import Derived.Laws.BitsLemmas
import Derived.RowKit
import Derived.Test.YthfaelbkdhhmdaaDoorBase
import Derived.Test.YthfaelbkdhhmdaaDoorWWords
import Derived.Test.YthfaelbkdhhmdaaDoorWLast
import Derived.Test.YthfaelbkdhhmdaaDoorWTab
import Derived.Test.YthfaelbkdhhmdaaDoorWFour
import Derived.Test.YthfaelbkdhhmdaaDoorWQPut
import Derived.Test.YthfaelbkdhhmdaaDoorWApart
import Derived.Test.YthfaelbkdhhmdaaDoorWArr
import Derived.Test.YthfaelbkdhhmdaaDoorWZeros
import Derived.Test.YthfaelbkdhhmdaaDoorWFoot
import Derived.Test.YthfaelbkdhhmdaaDoorWKept
import Derived.Test.YthfaelbkdhhmdaaDoorWShare
import Derived.Test.YthfaelbkdhhmdaaDoorWN
import Derived.Test.YthfaelbkdhhmdaaDoorWFootNe
import Derived.Test.YthfaelbkdhhmdaaDoorWAt
import Derived.Test.YthfaelbkdhhmdaaDoorWEqStruct
import Derived.Test.YthfaelbkdhhmdaaDoorWRepsOne
import Derived.Test.YthfaelbkdhhmdaaDoorWInv
import Derived.Test.YthfaelbkdhhmdaaDoorWInvWords
import Derived.Test.YthfaelbkdhhmdaaDoorWGuard
import Derived.Test.YthfaelbkdhhmdaaDoorWNEv
import Derived.Test.YthfaelbkdhhmdaaDoorWMore
import Derived.Shelf.Strings.Count
import Derived.Shelf.Strings.Search2
import Derived.Test.YthfaelbkdhhmdaaDoorLayA
namespace Go.Proofs.YthfaelbkdhhmdaaDoor.Hand
open Go.RowKit Go.Proofs.YthfaelbkdhhmdaaDoorW.PrintWords Go.Proofs.YthfaelbkdhhmdaaDoorW.PrintLast Go.Proofs.YthfaelbkdhhmdaaDoorW.PrintMore
attribute [local go_sem] max2_int min2_int max_two min_two max_three min_three max_four min_four   -- for this text's walks alone
set_option linter.unusedVariables false
set_option linter.unusedSimpArgs false

-- import Derived.Shelf.Strings.Count
-- import Derived.Shelf.Strings.Search2
-- import Derived.Test.YthfaelbkdhhmdaaDoorLayA
/-! ### what the library's splitting leans on: told at a separator of one byte, by the shelf's contracts -/
theorem one_byte (s : ByteArray) (h : s.size = 1) : ∃ c, s = ⟨#[c]⟩ := by
  obtain ⟨⟨l⟩⟩ := s
  match l, h with
  | [c], _ => exact ⟨c, rfl⟩
def stringslite_Index.f (a0 : ByteArray) (a1 : ByteArray) : Option (Int) := if a1.size = 1 then some (Lib.indexByte a0.data.toList (a1.data.toList.headD 0)) else none
theorem stringslite_Index.calls (a0 : ByteArray) (a1 : ByteArray) (r : Int) (w : World) (h : stringslite_Index.f a0 a1 = some r) :
    Calls Tryd.prog 105 #[.string a0, .string a1] w fun e w' => e = .returned (.int .i64 r) ∧ Drawn0 w w' := by
  unfold stringslite_Index.f at h
  by_cases c : a1.size = 1
  · rw [if_pos c] at h
    obtain ⟨b, rfl⟩ := one_byte a1 c
    obtain rfl := Option.some.inj h
    refine (Any.stringslite_Index_one Tryd.lays219 a0 b w).mono ?_
    rintro e w' ⟨rfl, rfl⟩
    exact ⟨rfl, Drawn0.refl _⟩
  · rw [if_neg c] at h
    cases h
def strings_Count.f (a0 : ByteArray) (a1 : ByteArray) : Option (Int) := if a1.size = 1 then some (Lib.countByte a0.data.toList (a1.data.toList.headD 0) : Int) else none
theorem strings_Count.calls (a0 : ByteArray) (a1 : ByteArray) (r : Int) (w : World) (h : strings_Count.f a0 a1 = some r) :
    Calls Tryd.prog 94 #[.string a0, .string a1] w fun e w' => e = .returned (.int .i64 r) ∧ Drawn0 w w' := by
  unfold strings_Count.f at h
  by_cases c : a1.size = 1
  · rw [if_pos c] at h
    obtain ⟨b, rfl⟩ := one_byte a1 c
    obtain rfl := Option.some.inj h
    refine (Any.strings_Count_one Tryd.lays138 a0 b w).mono ?_
    rintro e w' ⟨rfl, rfl⟩
    exact ⟨rfl, Drawn0.refl _⟩
  · rw [if_neg c] at h
    cases h
def strings_explode.f (a0 : ByteArray) (a1 : Int) : Option (List ByteArray) := none
theorem strings_explode.calls (a0 : ByteArray) (a1 : Int) (r : List ByteArray) (w : World) (h : strings_explode.f a0 a1 = some r) :
    Calls Tryd.prog 93 #[.string a0, .int .i64 a1] w fun e w' => ∃ v0_ : Value, e = .returned (v0_) ∧ Kd.R Kd.string 9 w' w.heap.size (fun _ => True) v0_ r ∧ Below w.heap.size w w' := by
  cases h

end Go.Proofs.YthfaelbkdhhmdaaDoor.Hand
