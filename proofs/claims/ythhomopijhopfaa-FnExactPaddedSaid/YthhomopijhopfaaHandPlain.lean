-- This text was written by hand (wip/hand/Plain.lean); Lean checks it.
import Derived.Test.YthhomopijhopfaaProg
import Derived.Below
import Derived.Deep.Draws
import Derived.Deep.AppendLies
import Derived.Maps.AppendAt
import Derived.OwnWalk
import Derived.Laws.BytesArg
import Derived.Laws.MakeOwn
import Derived.Laws.OwnMore
import Derived.Deep.OwnRows
import Derived.Tactics
import Derived.Lib.ConvBytes
import Derived.Laws.Slices
import Derived.WalkKit
import Derived.KernelRfl
import Derived.RowKit3
import Derived.Deep.LoopGhost
import Derived.Deep.QuietTactic
import Derived.BigQuiet
import Derived.WideLaws
import Derived.Deep.DeepCutAuto
import Derived.Deep.CutBlock
import Derived.Deep.RegionHeld3
import Derived.Laws.Rows
import Derived.Lib.AppendStr
import Derived.ArgAppend
import Derived.Laws.IdiomCopy
import Derived.OrdersHeld
import Derived.Laws.BitsLemmas
import Derived.RowKit
import Derived.Test.YthhomopijhopfaaBase
import Derived.Test.YthhomopijhopfaaWWords
import Derived.Test.YthhomopijhopfaaWLast
import Derived.Test.YthhomopijhopfaaWTab
import Derived.Test.YthhomopijhopfaaWFour
import Derived.Test.YthhomopijhopfaaWQPut
import Derived.Test.YthhomopijhopfaaWApart
import Derived.Test.YthhomopijhopfaaWArr
import Derived.Test.YthhomopijhopfaaWZeros
import Derived.Test.YthhomopijhopfaaWFoot
import Derived.Test.YthhomopijhopfaaWKept
import Derived.Test.YthhomopijhopfaaWShare
import Derived.Test.YthhomopijhopfaaWN
import Derived.Test.YthhomopijhopfaaWFootNe
import Derived.Test.YthhomopijhopfaaWAt
import Derived.Test.YthhomopijhopfaaWEqStruct
import Derived.Test.YthhomopijhopfaaWRepsOne
import Derived.Test.YthhomopijhopfaaWInv
import Derived.Test.YthhomopijhopfaaWInvWords
import Derived.Test.YthhomopijhopfaaWGuard
import Derived.Test.YthhomopijhopfaaWNEv
import Derived.Test.YthhomopijhopfaaWMore
import Derived.Shelf.Strings.FieldsFuncAny
import Derived.Shelf.Strings.OnBuilder
import Derived.Test.YthhomopijhopfaaLayN
import Derived.Test.YthhomopijhopfaaHandLower
namespace Go.Proofs.Ythhomopijhopfaa.Hand
open Go.RowKit Go.Proofs.YthhomopijhopfaaW.PrintWords Go.Proofs.YthhomopijhopfaaW.PrintLast Go.Proofs.YthhomopijhopfaaW.PrintMore
attribute [local go_sem] max2_int min2_int max_two min_two max_three min_three max_four min_four   -- for this text's walks alone
set_option linter.unusedVariables false
set_option linter.unusedSimpArgs false

-- import Derived.Shelf.Strings.FieldsFuncAny
-- import Derived.Shelf.Strings.OnBuilder
-- import Derived.Test.YthhomopijhopfaaLayN
-- import Derived.Test.YthhomopijhopfaaHandLower
/-! ### impl_plain: function 64: by hand, over the shelf's FieldsFunc and Join -/
theorem extra156 : Builder.Extra Try.prog Try.lays156_ren where
  sizeBuilder := by kernel_rfl
  liesBuilder := by kernel_rfl
  t5 := Try.underlying5
  a5 := Try.isAgg5
  z5 := Try.sizeOf5
  v5 := Try.zeroValue5
  infoByte := by kernel_rfl
  cellsByte := by kernel_rfl
  sizeByte := by kernel_rfl
  neB5 := by decide
def isSp (n : Nat) : Bool := n == 32
def plainL (s : ByteArray) : List ByteArray := Lib.goFieldsP isSp (strOfNums ((bytesOf s).map low))
def plainS (s : ByteArray) : ByteArray := ⟨(Lib.join ((plainL s).map (·.data.toList)) [32]).toArray⟩
def impl_plain.f (s : ByteArray) : Option ByteArray :=
  if s.size ≤ 1000 then (if (strOfNums ((bytesOf s).map low)).size ≤ 1000 then (if (plainL s).length ≤ 1000 then (if (Lib.join ((plainL s).map (·.data.toList)) [32]).length ≤ 100000 then some (plainS s) else none) else none) else none) else none
theorem sp_any (w : World) : PredAt Try.prog 94 #[] encR isSp w := fun W r _ => by
  unfold FnGives
  by_cases h1 : r = 32
  · have z1 : (r : Int) = 32 := by omega
    go_enter Try.func94, Try.ntmps94
    go_wp2
    go_ret
    exact ⟨by simp [isSp, h1], 0, rfl⟩
  · have z1 : ¬ (r : Int) = 32 := by omega
    go_enter Try.func94, Try.ntmps94
    go_wp2
    go_ret
    exact ⟨congrArg (fun b => Ending.returned (Value.bool b)) (show ((r : Int) == 32) = (r == 32) by rw [beq_eq_false_iff_ne.2 (show (r : Int) ≠ 32 from z1), beq_eq_false_iff_ne.2 h1]), 0, rfl⟩
set_option maxHeartbeats 2000000 in
set_option maxRecDepth 100000 in
theorem impl_plain.calls (a0 : ByteArray) (r : ByteArray) (w : World) (h : impl_plain.f a0 = some r) :
    Calls Try.prog 64 #[.string a0] w fun e w' => e = .returned (.string r) ∧ Below w.heap.size w w' := by
  unfold impl_plain.f at h
  obtain ⟨c1, c4, c2, c3, h⟩ : a0.size ≤ 1000 ∧ (strOfNums ((bytesOf a0).map low)).size ≤ 1000 ∧ (plainL a0).length ≤ 1000 ∧ (Lib.join ((plainL a0).map (·.data.toList)) [32]).length ≤ 100000 ∧ some (plainS a0) = some r := by
    by_cases c1 : a0.size ≤ 1000
    · rw [if_pos c1] at h
      by_cases c4 : (strOfNums ((bytesOf a0).map low)).size ≤ 1000
      · rw [if_pos c4] at h
        by_cases c2 : (plainL a0).length ≤ 1000
        · rw [if_pos c2] at h
          by_cases c3 : (Lib.join ((plainL a0).map (·.data.toList)) [32]).length ≤ 100000
          · rw [if_pos c3] at h
            exact ⟨c1, c4, c2, c3, h⟩
          · rw [if_neg c3] at h
            cases h
        · rw [if_neg c2] at h
          cases h
      · rw [if_neg c4] at h
        cases h
    · rw [if_neg c1] at h
      cases h
  obtain rfl := Option.some.inj h
  clear h
  have cL := fun W => impl_Lower.calls a0 (strOfNums ((bytesOf a0).map low)) W (if_pos (by omega))
  have cF := fun W => Any.strings_FieldsFunc Try.lays229 94 #[] (enters_of Try.func94 (by kernel_rfl) rfl) isSp (strOfNums ((bytesOf a0).map low)) W (by omega) (sp_any W) (by kernel_rfl) (by kernel_rfl)
  change ∀ W, Calls Try.prog 92 _ _ _ at cF
  have cJ := fun (W : World) (A B : Nat) (hown : W.ownsRow B (Try.lays229_ren.t 9) 1 (.slice (some ⟨A, 0, none⟩) (plainL a0).length (plainL a0).length) (plainL a0).length ((plainL a0).map Value.string)) (hA : A < W.heap.size) =>
    Any.strings_Join Try.lays156 extra156 A 0 (plainL a0).length (plainL a0) ⟨#[32]⟩ W
      (fun j x hx => by
        have := hown.cells (g := A) rfl j (.string x) (by rw [List.getElem?_map, hx]; rfl)
        rw [Nat.zero_add]
        rw [show (⟨A, 0, none⟩ : Addr).add j = ⟨A, j, none⟩ by unfold Addr.add; split <;> simp_all] at this
        exact this)
      hA (by omega) (Nat.le_refl _) (Nat.le_trans c3 (by decide))
  change ∀ W A B _ _, Calls Try.prog 95 _ _ _ at cJ
  have eP : (⟨(Lib.join ((plainL a0).map (·.data.toList)) (⟨#[32]⟩ : ByteArray).data.toList).toArray⟩ : ByteArray) = plainS a0 := rfl
  rw [eP] at cJ
  have eL : Lib.goFieldsP isSp (strOfNums ((bytesOf a0).map low)) = plainL a0 := rfl
  rw [eL] at cF
  generalize plainL a0 = L at cF cJ c2 c3
  generalize strOfNums ((bytesOf a0).map low) = lo at cL cF
  generalize plainS a0 = R at cJ ⊢
  clear c1 c4 c3 eL eP
  go_enter Try.func64, Try.ntmps64
  go_wp2_with (first
    | (go_at_call 93; refine (cL _).mono ?_; rintro e w1 ⟨rfl, hb1⟩)
    | (go_at_call 92; refine (cF _).mono ?_; rintro e w2 ⟨A, rfl, hA, hown, hb2⟩)
    | (go_at_call 95; refine (cJ _ A _ hown (hown.lt _ rfl).2).mono ?_; rintro e w3 ⟨rfl, hb3⟩))
  go_ret
  exact ⟨rfl, (hb1.trans (hb2.mono hb1.size)).trans (hb3.mono (Nat.le_trans hb1.size hb2.size))⟩

end Go.Proofs.Ythhomopijhopfaa.Hand
