-- This text was written by hand (wip/hand/Lower.lean); Lean checks it.
import Derived.Test.YthfaelbkdhhmdaaDoorProg
import Derived.Below
import Derived.Deep.Draws
import Derived.Deep.AppendLies
import Derived.Maps.AppendAt
import Derived.OwnWalk
import Derived.Laws.BytesArg
import Derived.Laws.MakeOwn
import Derived.Laws.OwnMore
import Derived.Deep.OwnRows
import Derived.Tactics
import Derived.Lib.ConvBytes
import Derived.Laws.Slices
import Derived.WalkKit
import Derived.KernelRfl
import Derived.RowKit3
import Derived.Deep.LoopGhost
import Derived.Deep.QuietTactic
import Derived.BigQuiet
import Derived.WideLaws
import Derived.Deep.DeepCutAuto
import Derived.Deep.CutBlock
import Derived.Deep.RegionHeld3
import Derived.Laws.Rows
import Derived.Lib.AppendStr
import Derived.ArgAppend
import Derived.Laws.IdiomCopy
import Derived.OrdersHeld
import Derived.Laws.BitsLemmas
import Derived.RowKit
import Derived.Test.YthfaelbkdhhmdaaDoorBase
import Derived.Test.YthfaelbkdhhmdaaDoorWWords
import Derived.Test.YthfaelbkdhhmdaaDoorWLast
import Derived.Test.YthfaelbkdhhmdaaDoorWTab
import Derived.Test.YthfaelbkdhhmdaaDoorWFour
import Derived.Test.YthfaelbkdhhmdaaDoorWQPut
import Derived.Test.YthfaelbkdhhmdaaDoorWApart
import Derived.Test.YthfaelbkdhhmdaaDoorWArr
import Derived.Test.YthfaelbkdhhmdaaDoorWZeros
import Derived.Test.YthfaelbkdhhmdaaDoorWFoot
import Derived.Test.YthfaelbkdhhmdaaDoorWKept
import Derived.Test.YthfaelbkdhhmdaaDoorWShare
import Derived.Test.YthfaelbkdhhmdaaDoorWN
import Derived.Test.YthfaelbkdhhmdaaDoorWFootNe
import Derived.Test.YthfaelbkdhhmdaaDoorWAt
import Derived.Test.YthfaelbkdhhmdaaDoorWEqStruct
import Derived.Test.YthfaelbkdhhmdaaDoorWRepsOne
import Derived.Test.YthfaelbkdhhmdaaDoorWInv
import Derived.Test.YthfaelbkdhhmdaaDoorWInvWords
import Derived.Test.YthfaelbkdhhmdaaDoorWGuard
import Derived.Test.YthfaelbkdhhmdaaDoorWNEv
import Derived.Test.YthfaelbkdhhmdaaDoorWMore
import Derived.Laws.IdiomStrings
namespace Go.Proofs.YthfaelbkdhhmdaaDoor.Hand
open Go.RowKit Go.Proofs.YthfaelbkdhhmdaaDoorW.PrintWords Go.Proofs.YthfaelbkdhhmdaaDoorW.PrintLast Go.Proofs.YthfaelbkdhhmdaaDoorW.PrintMore
attribute [local go_sem] max2_int min2_int max_two min_two max_three min_three max_four min_four   -- for this text's walks alone
set_option linter.unusedVariables false
set_option linter.unusedSimpArgs false

-- import Derived.Laws.IdiomStrings
-- import Derived.Laws.BytesArg
/-! ### impl_Lower: function 35: by hand: '[]byte(s)' lays a row with the run-time's mark; the row is told to the cell -/
structure Str (W : World) (g : Nat) (xs : List Int) : Prop where
  cell : ∀ i, i < xs.length → W.cell? ⟨g, i, none⟩ = some (.int .u8 (xs.getD i 0))
  free : ∀ i, i < xs.length → W.frozen? ⟨g, i, none⟩ = false
theorem Str.set {W : World} {g : Nat} {xs : List Int} (h : Str W g xs) (i : Nat) (v : Int) : Str (W.setCell ⟨g, i, none⟩ (.int .u8 v)) g (xs.set i v) := by
  constructor
  · intro j hj
    rw [List.length_set] at hj
    by_cases e : i = j
    · subst e
      rw [World.cell?_setCell_same _ _ _ (h.cell i hj)]
      simp [List.getD_eq_getElem?_getD, hj]
    · rw [World.cell?_setCell_other _ _ _ _ (by simp [e]), h.cell j hj]
      simp [List.getD_eq_getElem?_getD, List.getElem?_set, e]
  · intro j hj
    rw [List.length_set] at hj
    rw [World.frozen?_setCell]
    exact h.free j hj
theorem str_of (w : World) (src dst e : TypeId) (s : ByteArray) {P : Program} (hs : P.underlying src = some .string) (hd : P.underlying dst = some (.slice e)) (he : P.underlying e = some (.int .u8)) :
    ∃ w1 cap, (convert src dst (.string s)).run P w = .ok (.slice (some ⟨w.heap.size, 0, none⟩) (bytesOf s).length cap) w1 ∧ Str w1 w.heap.size (bytesOf s) ∧ Below w.heap.size w w1 := by
  refine ⟨_, _, by rw [bytesOf_length]; exact run_bytes_of_string w src dst e s hs hd he, ?_, below_alloc (below_drew1 (Below.refl _ _)) _⟩
  have hz : ∀ C : Array Value, (w.drew.alloc (.cells C e (C.size, C.size + 1))) = w.drew.alloc (.cells C e (C.size, C.size + 1)) := fun _ => rfl
  have hh : w.heap.size = w.drew.heap.size := rfl
  constructor
  · intro i hi
    rw [bytesOf_length] at hi
    rw [hh, World.cell?_alloc_mark, bytesRow_at s _ i hi]
    congr 2
    rw [List.getD_eq_getElem?_getD, bytesOf]
    have : i < s.data.toList.length := by rw [data_length]; exact hi
    simp [List.getElem?_map, List.getElem?_eq_getElem this]
  · intro i hi
    rw [bytesOf_length] at hi
    rw [hh, World.frozen?_alloc_mark]
    have : i < (bytesRow s (grownCap w s.size 0 e)).size := by
      unfold bytesRow
      simp only [Array.size_append, Array.size_map]
      have : s.data.size = s.size := rfl
      omega
    simp
    omega
/-- One byte, in small letters. -/
def low (b : Int) : Int := if 65 ≤ b ∧ b ≤ 90 then b + 32 else b
/-- The row when i bytes are done. -/
def lowAt (bs : List Int) (i : Int) : List Int := (bs.take i.toNat).map low ++ bs.drop i.toNat
def impl_Lower.f (s : ByteArray) : Option ByteArray := if s.size < 9223372036854775807 then some (strOfNums ((bytesOf s).map low)) else none
theorem lowAt_length (bs : List Int) (i : Int) : (lowAt bs i).length = bs.length := by
  unfold lowAt
  simp
  omega
theorem lowAt_zero (bs : List Int) : lowAt bs 0 = bs := by simp [lowAt]
theorem lowAt_full (bs : List Int) (i : Int) (h : bs.length ≤ i.toNat) : lowAt bs i = bs.map low := by
  unfold lowAt
  rw [List.take_of_length_le h, List.drop_of_length_le h, List.append_nil]
theorem lowAt_get (bs : List Int) (i : Int) (h0 : 0 ≤ i) (h1 : i.toNat < bs.length) : (lowAt bs i).getD i.toNat 0 = bs[i.toNat] := by
  unfold lowAt
  rw [List.getD_eq_getElem?_getD, List.getElem?_append_right (by simp; try omega)]
  simp only [List.length_map, List.length_take, List.getElem?_drop]
  rw [show i.toNat + (i.toNat - min i.toNat bs.length) = i.toNat by omega, List.getElem?_eq_getElem h1]
  rfl
theorem lowAt_next (bs : List Int) (i : Int) (h0 : 0 ≤ i) (h1 : i.toNat < bs.length) : lowAt bs (i + 1) = (lowAt bs i).set i.toNat (low bs[i.toNat]) := by
  have e : (i + 1).toNat = i.toNat + 1 := by omega
  unfold lowAt
  rw [e]
  apply List.ext_getElem?
  intro j
  by_cases c1 : j < i.toNat
  · rw [List.getElem?_append_left (by simp; omega), List.getElem?_set, if_neg (by omega), List.getElem?_append_left (by simp; omega)]
    simp [c1, List.getElem?_take, show j < i.toNat + 1 by omega]
  · by_cases c2 : j = i.toNat
    · subst c2
      rw [List.getElem?_append_left (by simp; omega), List.getElem?_set, if_pos rfl, if_pos (by simp; omega)]
      simp [List.getElem?_eq_getElem h1]
    · rw [List.getElem?_append_right (by simp; omega), List.getElem?_set, if_neg (by omega), List.getElem?_append_right (by simp; omega)]
      simp only [List.length_map, List.length_take, List.getElem?_drop]
      congr 1
      omega
theorem lowAt_same (bs : List Int) (i : Int) (h0 : 0 ≤ i) (h1 : i.toNat < bs.length) (h : low bs[i.toNat] = bs[i.toNat]) : lowAt bs (i + 1) = lowAt bs i := by
  rw [lowAt_next bs i h0 h1, h]
  apply List.ext_getElem?
  intro j
  rw [List.getElem?_set]
  split
  · next e =>
    subst e
    rw [if_pos (by rw [lowAt_length]; exact h1)]
    have := lowAt_get bs i h0 h1
    rw [List.getD_eq_getElem?_getD] at this
    have hl : i.toNat < (lowAt bs i).length := by rw [lowAt_length]; exact h1
    rw [List.getElem?_eq_getElem hl] at this ⊢
    simpa using this.symm
  · rfl
theorem bytesOf_range (s : ByteArray) (i : Nat) (h : i < (bytesOf s).length) : 0 ≤ (bytesOf s)[i] ∧ (bytesOf s)[i] < 256 := by
  simp only [bytesOf, List.getElem_map]
  have := (s.data.toList[i]'(by simpa [bytesOf] using h)).toNat_lt
  omega
set_option maxHeartbeats 8000000 in
set_option maxRecDepth 100000 in
theorem impl_Lower.calls (a0 : ByteArray) (r : ByteArray) (w : World) (h : impl_Lower.f a0 = some r) :
    Calls Tryd.prog 35 #[.string a0] w fun e w' => e = .returned (.string r) ∧ Below w.heap.size w w' := by
  obtain ⟨r0_, hr0_⟩ : ∃ r_, r_ = strOfNums ((bytesOf a0).map low) := ⟨_, rfl⟩
  unfold impl_Lower.f at h
  obtain ⟨hsz, h⟩ : a0.size < 9223372036854775807 ∧ some (strOfNums ((bytesOf a0).map low)) = some r := by
    by_cases c : a0.size < 9223372036854775807
    · rw [if_pos c] at h; exact ⟨c, h⟩
    · rw [if_neg c] at h; cases h
  have h2_ : r0_ = r := by rw [hr0_]; exact Option.some.inj h
  subst h2_
  clear h
  obtain ⟨w1, cap, hcv, hs, hb⟩ := str_of (P := Tryd.prog) w 9 32 5 a0 Tryd.underlying9 Tryd.underlying32 Tryd.underlying5
  have HS0 : Str w1 w.heap.size (lowAt (bytesOf a0) 0) := by rw [lowAt_zero]; exact hs
  have HR := bytesOf_range a0
  generalize hbs : bytesOf a0 = bs at *
  have hfin : r0_ = strOfNums (bs.map low) := hr0_
  clear hr0_
  have hq0 : bs.length < 9223372036854775807 := by rw [← hbs, bytesOf_length]; exact hsz
  go_enter Tryd.func35, Tryd.ntmps35
  go_wp2
  go_loopg [10] bs.length (fun kq v10 w' => ∃ (i : Int), v10 = .int .i64 i ∧ 0 ≤ i ∧ Aside0 (i.toNat + kq = bs.length) ∧ Str w' w.heap.size (lowAt bs i) ∧ Below w.heap.size w w')
  case atStart => exact ⟨0, by first | rfl | (simp; done), by omega, ⟨by simp⟩, HS0, hb⟩
  case round =>
    obtain ⟨i, rfl, hi0, hq, HS, HB⟩ := hrel
    by_cases c1 : i < (bs.length : Int)
    · have c1b : decide (i < (bs.length : Int)) = true := decide_eq_true c1
      have hin : i.toNat < bs.length := by omega
      have hin2 : i.toNat < (lowAt bs i).length := by rw [lowAt_length]; exact hin
      have hx := HS.cell _ hin2
      have hf := HS.free _ hin2
      rw [lowAt_get bs i hi0 hin] at hx
      have hr := HR _ hin
      have hnext := lowAt_next bs i hi0 hin
      have hsame := lowAt_same bs i hi0 hin
      generalize bs[i.toNat] = b at hx hr hnext hsame
      have d0 := eq_true hi0
      have d1 := eq_true c1
      have hw : wrap64 (i + 1) = i + 1 := Base.w64 (by omega) (by omega)
      clear hin2
      by_cases c2 : 65 ≤ b
      · have c2b : decide (65 ≤ b) = true := decide_eq_true c2
        by_cases c3 : b ≤ 90
        · have c3b : decide (b ≤ 90) = true := decide_eq_true c3
          have hv : b + 97 - 65 = low b := by rw [low, if_pos ⟨c2, c3⟩]; omega
          go_wp2
          cases gk with
          | zero => exact absurd hq.out (by omega)
          | succ k1 =>
            go_roundg k1
            case measure => omega
            case rel => exact ⟨i + 1, by first | rfl | (simp; done), by omega, ⟨by have := hq.out; omega⟩, by rw [hnext]; exact HS.set _ _, below_set HB (Nat.le_refl _)⟩
        · have c3b : decide (b ≤ 90) = false := decide_eq_false c3
          have hl : low b = b := if_neg (by omega)
          go_wp2
          cases gk with
          | zero => exact absurd hq.out (by omega)
          | succ k1 =>
            go_roundg k1
            case measure => omega
            case rel => exact ⟨i + 1, by first | rfl | (simp; done), by omega, ⟨by have := hq.out; omega⟩, by rw [hsame hl]; exact HS, HB⟩
      · have c2b : decide (65 ≤ b) = false := decide_eq_false c2
        have hl : low b = b := if_neg (by omega)
        go_wp2
        cases gk with
        | zero => exact absurd hq.out (by omega)
        | succ k1 =>
          go_roundg k1
          case measure => omega
          case rel => exact ⟨i + 1, by first | rfl | (simp; done), by omega, ⟨by have := hq.out; omega⟩, by rw [hsame hl]; exact HS, HB⟩
    · have c1b : decide (i < (bs.length : Int)) = false := decide_eq_false c1
      have hfull := lowAt_full bs i (by omega)
      rw [hfull] at HS
      have hcs := run_convert_bytes_arg (P := Tryd.prog) wr 32 5 Tryd.underlying32 Tryd.underlying5 w.heap.size 0 bs.length cap (bs.map low) (by simp) (fun i hi => by rw [Nat.zero_add]; exact HS.cell i (by simpa using hi)) 9 Tryd.underlying9
      rw [← hfin] at hcs
      go_wp2
      go_ret
      exact ⟨by first | rfl | (simp; done), HB⟩

end Go.Proofs.YthfaelbkdhhmdaaDoor.Hand
