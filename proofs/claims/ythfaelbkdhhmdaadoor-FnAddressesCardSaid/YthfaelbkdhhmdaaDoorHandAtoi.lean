-- This text was written by hand (wip/hand/Atoi.lean); Lean checks it.
import Derived.Test.YthfaelbkdhhmdaaDoorProg
import Derived.Below
import Derived.Deep.Draws
import Derived.Deep.AppendLies
import Derived.Maps.AppendAt
import Derived.OwnWalk
import Derived.Laws.BytesArg
import Derived.Laws.MakeOwn
import Derived.Laws.OwnMore
import Derived.Deep.OwnRows
import Derived.Tactics
import Derived.Lib.ConvBytes
import Derived.Laws.Slices
import Derived.WalkKit
import Derived.KernelRfl
import Derived.RowKit3
import Derived.Deep.LoopGhost
import Derived.Deep.QuietTactic
import Derived.BigQuiet
import Derived.WideLaws
import Derived.Deep.DeepCutAuto
import Derived.Deep.CutBlock
import Derived.Deep.RegionHeld3
import Derived.Laws.Rows
import Derived.Lib.AppendStr
import Derived.ArgAppend
import Derived.Laws.IdiomCopy
import Derived.OrdersHeld
import Derived.Laws.BitsLemmas
import Derived.RowKit
import Derived.Test.YthfaelbkdhhmdaaDoorBase
import Derived.Test.YthfaelbkdhhmdaaDoorWWords
import Derived.Test.YthfaelbkdhhmdaaDoorWLast
import Derived.Test.YthfaelbkdhhmdaaDoorWTab
import Derived.Test.YthfaelbkdhhmdaaDoorWFour
import Derived.Test.YthfaelbkdhhmdaaDoorWQPut
import Derived.Test.YthfaelbkdhhmdaaDoorWApart
import Derived.Test.YthfaelbkdhhmdaaDoorWArr
import Derived.Test.YthfaelbkdhhmdaaDoorWZeros
import Derived.Test.YthfaelbkdhhmdaaDoorWFoot
import Derived.Test.YthfaelbkdhhmdaaDoorWKept
import Derived.Test.YthfaelbkdhhmdaaDoorWShare
import Derived.Test.YthfaelbkdhhmdaaDoorWN
import Derived.Test.YthfaelbkdhhmdaaDoorWFootNe
import Derived.Test.YthfaelbkdhhmdaaDoorWAt
import Derived.Test.YthfaelbkdhhmdaaDoorWEqStruct
import Derived.Test.YthfaelbkdhhmdaaDoorWRepsOne
import Derived.Test.YthfaelbkdhhmdaaDoorWInv
import Derived.Test.YthfaelbkdhhmdaaDoorWInvWords
import Derived.Test.YthfaelbkdhhmdaaDoorWGuard
import Derived.Test.YthfaelbkdhhmdaaDoorWNEv
import Derived.Test.YthfaelbkdhhmdaaDoorWMore
import Derived.Shelf.Strconv.ErrVarAll
import Derived.Test.YthfaelbkdhhmdaaDoorLayC
import Derived.Test.YthfaelbkdhhmdaaDoorHandItoa
namespace Go.Proofs.YthfaelbkdhhmdaaDoor.Hand
open Go.RowKit Go.Proofs.YthfaelbkdhhmdaaDoorW.PrintWords Go.Proofs.YthfaelbkdhhmdaaDoorW.PrintLast Go.Proofs.YthfaelbkdhhmdaaDoorW.PrintMore
attribute [local go_sem] max2_int min2_int max_two min_two max_three min_three max_four min_four   -- for this text's walks alone
set_option linter.unusedVariables false
set_option linter.unusedSimpArgs false

-- import Derived.Shelf.Strconv.ErrVarAll
-- import Derived.Test.YthfaelbkdhhmdaaDoorLayC
-- import Derived.Test.YthfaelbkdhhmdaaDoorHandItoa
/-! ### strconv_Atoi: function 45: by hand, over the shelf's contracts: an error is told as one, not which -/
/-- What strconv reads lies in the world: the table and the two errors. -/
structure TabE (w : World) : Prop where
  tab : Tab w
  syn : ∃ tp p, w.var? Tryd.prog "strconv.ErrSyntax" = some #[.iface tp p]
  rng : ∃ tp p, w.var? Tryd.prog "strconv.ErrRange" = some #[.iface tp p]
theorem var_on {P : Program} {w w' : World} {name : String} {cs : Array Value} (h : w.var? P name = some cs) (hb : Below w.heap.size w w') : w'.var? P name = some cs := by
  unfold World.var? at *
  cases hg : P.globalNamed name with
  | none => simp [hg] at h
  | some g =>
    simp only [hg, Option.bind_some] at h ⊢
    have hlt : g < w.heap.size := by
      rcases Nat.lt_or_ge g w.heap.size with h' | h'
      · exact h'
      · rw [Array.getElem?_eq_none h'] at h; simp at h
    rw [hb.block g hlt]
    exact h
theorem TabE.on {w w' : World} (h : TabE w) (hb : Below w.heap.size w w') : TabE w' :=
  ⟨h.tab.on hb, by obtain ⟨tp, p, e⟩ := h.syn; exact ⟨tp, p, var_on e hb⟩, by obtain ⟨tp, p, e⟩ := h.rng; exact ⟨tp, p, var_on e hb⟩⟩
def ErrIs (r : Option Int) (ev : Value) : Prop := match r with
  | none => ev = .nilIface
  | some _ => ∃ N, ev = .iface 97 (.pointer (some ⟨N, 0, none⟩))
def strconv_Atoi.f (a0 : ByteArray) : Option (Int × Option Int) := if a0.size ≤ 281474976710656 then (match Lib.atoiAll a0.data.toList with
  | .ok v => some (v, none)
  | .syntax => some (0, some 0)
  | .range => some (Lib.atoiSat a0.data.toList, some 0)) else none
theorem strconv_Atoi.calls (a0 : ByteArray) (r1 : Int) (r2 : Option Int) (w : World) (h : strconv_Atoi.f a0 = some (r1, r2)) (hT : TabE w) :
    Calls Tryd.prog 45 #[.string a0] w fun e w' => ∃ ev, e = .returned (.tuple #[.int .i64 r1, ev]) ∧ ErrIs r2 ev ∧ Below w.heap.size w w' := by
  unfold strconv_Atoi.f at h
  by_cases c0 : a0.size ≤ 281474976710656
  · rw [if_pos c0] at h
    cases q : Lib.atoiAll a0.data.toList with
    | ok v =>
      rw [q] at h
      simp only [Option.some.injEq, Prod.mk.injEq] at h
      obtain ⟨rfl, rfl⟩ := h
      refine (Any.strconv_Atoi_ok Tryd.laysC172 a0 (by omega) v q w).mono ?_
      rintro e w' ⟨rfl, hw⟩
      refine ⟨_, rfl, rfl, ?_⟩
      rcases hw with rfl | ⟨t, rfl⟩
      · exact Below.refl _ _
      · exact ⟨rfl, rfl, rfl, by rw [Lib.bytesWorld_size]; omega, fun j hj => Lib.bytesWorld_at_old _ _ _ _ hj⟩
    | «syntax» =>
      rw [q] at h
      simp only [Option.some.injEq, Prod.mk.injEq] at h
      obtain ⟨rfl, rfl⟩ := h
      obtain ⟨tp, p, e⟩ := hT.syn
      refine (Any.strconv_Atoi_syntax_var Tryd.laysC172 a0 c0 q tp p w e).mono ?_
      rintro e w' ⟨N, rfl, _, _, hb⟩
      exact ⟨_, rfl, ⟨N, rfl⟩, hb⟩
    | range =>
      rw [q] at h
      simp only [Option.some.injEq, Prod.mk.injEq] at h
      obtain ⟨rfl, rfl⟩ := h
      obtain ⟨tp, p, e⟩ := hT.rng
      refine (Any.strconv_Atoi_range_var Tryd.laysC172 a0 c0 q tp p w e).mono ?_
      rintro e w' ⟨N, rfl, _, _, hb⟩
      exact ⟨_, rfl, ⟨N, rfl⟩, hb⟩
  · rw [if_neg c0] at h
    cases h

end Go.Proofs.YthfaelbkdhhmdaaDoor.Hand
