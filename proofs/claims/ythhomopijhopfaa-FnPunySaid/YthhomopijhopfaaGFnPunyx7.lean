-- This text was written by wip/gen.py, a program of this session; Lean checks it.
import Derived.Test.YthhomopijhopfaaGFnPunyx0
import Derived.Test.YthhomopijhopfaaGFnPunyx1
import Derived.Test.YthhomopijhopfaaGFnPunyx2
import Derived.Test.YthhomopijhopfaaGFnPunyx3
import Derived.Test.YthhomopijhopfaaGFnPunyx6
namespace Go.Proofs.Ythhomopijhopfaa.GFnPuny
open Go.RowKit Go.Proofs.YthhomopijhopfaaW.PrintWords Go.Proofs.YthhomopijhopfaaW.PrintLast Go.Proofs.YthhomopijhopfaaW.PrintMore
attribute [local go_sem] max2_int min2_int max_two min_two max_three min_three max_four min_four   -- for this text's walks alone
set_option linter.unusedVariables false
set_option linter.unusedSimpArgs false

/-! ### impl_ReadPuny: function 27 -/
mutual
def impl_ReadPuny.j1 : Nat → ByteArray → List Int → ByteArray → Option (List Int × Bool)
  | 0, _, _, _ => none
  | k + 1, x0, x4, x5 => impl_ReadPuny.l1 k x0 x4 x5 (x4.length : Int) 128 0 72
def impl_ReadPuny.l1 : Nat → ByteArray → List Int → ByteArray → Int → Int → Int → Int → Option (List Int × Bool)
  | 0, _, _, _, _, _, _, _ => none
  | k + 1, x0, x4, x5, x8, x9, x10, x11 => if x5.toList = ([] : List UInt8) then (impl_ReadPuny.j3 k x0 x4 x5 x8 x9 x10 x11 false) else (impl_ReadPuny.j3 k x0 x4 x5 x8 x9 x10 x11 (decide ((x4.length : Int) ≤ 20)))
def impl_ReadPuny.j3 : Nat → ByteArray → List Int → ByteArray → Int → Int → Int → Int → Bool → Option (List Int × Bool)
  | 0, _, _, _, _, _, _, _, _ => none
  | k + 1, x0, x4, x5, x8, x9, x10, x11, x50 => if x50 = true then (impl_ReadPuny.l2 k x0 x4 x5 x8 x9 x10 x11 x10 1 36) else ((impl_isWord.f k x4).bind fun t273 => (if t273 = true then ((impl_puny.f k x4).bind fun t274 => (if t274.toList = x0.toList then (some (x4, true)) else (some (([] : List Int), false)))) else (some (([] : List Int), false))))
def impl_ReadPuny.l2 : Nat → ByteArray → List Int → ByteArray → Int → Int → Int → Int → Int → Int → Int → Option (List Int × Bool)
  | 0, _, _, _, _, _, _, _, _, _, _ => none
  | k + 1, x0, x4, x5, x8, x9, x10, x11, x12, x13, x14 => if x5.toList = ([] : List UInt8) then (impl_ReadPuny.j5 k x0 x4 x5 x8 x9 x10 x11 x12 x13 x14 true) else (if 0 < (x5.size : Int) then ((impl_digitOf.f k (bt x5 0)).bind fun t263 => (if t263 < 0 then (impl_ReadPuny.j5 k x0 x4 x5 x8 x9 x10 x11 x12 x13 x14 true) else (if x10 > 1099511627776 then (impl_ReadPuny.j5 k x0 x4 x5 x8 x9 x10 x11 x12 x13 x14 true) else (impl_ReadPuny.j5 k x0 x4 x5 x8 x9 x10 x11 x12 x13 x14 (decide (x13 > 1099511627776)))))) else (none))
def impl_ReadPuny.j5 : Nat → ByteArray → List Int → ByteArray → Int → Int → Int → Int → Int → Int → Int → Bool → Option (List Int × Bool)
  | 0, _, _, _, _, _, _, _, _, _, _, _ => none
  | k + 1, x0, x4, x5, x8, x9, x10, x11, x12, x13, x14, x69 => if x69 = true then (some (([] : List Int), false)) else (if 0 < (x5.size : Int) then ((impl_digitOf.f k (bt x5 0)).bind fun t264 => ((impl_threshold.f x14 x11).bind fun t265 => (if 1 ≤ (x5.size : Int) then (if t264 < t265 then ((impl_adapted.f k (wrap64 ((wrap64 (x10 + (wrap64 (t264 * x13)))) - x12)) (wrap64 ((x4.length : Int) + 1)) ((x4.length : Int) == x8)).bind fun t266 => (if (wrap64 ((x4.length : Int) + 1)) = 0 then (none) else ((Hand.slices_Insert_int.f x4 (Int.tmod (wrap64 (x10 + (wrap64 (t264 * x13)))) (wrap64 ((x4.length : Int) + 1))) (([wrap64 (x9 + (wrap64 (Int.tdiv (wrap64 (x10 + (wrap64 (t264 * x13)))) (wrap64 ((x4.length : Int) + 1)))))] : List Int))).bind fun t270 => (impl_ReadPuny.l1 k x0 t270 (x5.extract 1 x5.size) x8 (wrap64 (x9 + (wrap64 (Int.tdiv (wrap64 (x10 + (wrap64 (t264 * x13)))) (wrap64 ((x4.length : Int) + 1)))))) (wrap64 ((Int.tmod (wrap64 (x10 + (wrap64 (t264 * x13)))) (wrap64 ((x4.length : Int) + 1))) + 1)) t266)))) else (impl_ReadPuny.l2 k x0 x4 (x5.extract 1 x5.size) x8 x9 (wrap64 (x10 + (wrap64 (t264 * x13)))) x11 x12 (wrap64 (x13 * (wrap64 (36 - t265)))) (wrap64 (x14 + 36)))) else (none)))) else (none))
def impl_ReadPuny.l0 : Nat → ByteArray → List Int → ByteArray → Int → Int → Option (List Int × Bool)
  | 0, _, _, _, _, _ => none
  | k + 1, x0, x4, x5, x30, x31 => if x31 < x30 then (if 0 ≤ x31 then (if x31 < (x0.size : Int) then (if x4.length < 17592186044416 then (impl_ReadPuny.l0 k x0 (x4 ++ [wrap64 (bt x0 x31)]) x5 x30 (wrap64 (x31 + 1))) else (none)) else (none)) else (none)) else (impl_ReadPuny.j1 k x0 x4 x5)
end
def impl_ReadPuny.f (k : Nat) (a0 : ByteArray) : Option (List Int × Bool) := if (a0.size : Int) > 60 then (some (([] : List Int), false)) else ((some (([] : List Int) : List Int)).bind fun y256 => ((strings_LastIndexByte.f k a0 45).bind fun t259 => (if t259 ≥ 0 then (if 0 ≤ (wrap64 (t259 + 1)) then (if (wrap64 (t259 + 1)) ≤ (a0.size : Int) then (impl_ReadPuny.l0 k a0 y256 (a0.extract ((wrap64 (t259 + 1)) : Int).toNat a0.size) t259 0) else (none)) else (none)) else (impl_ReadPuny.j1 k a0 y256 a0))))
theorem impl_ReadPuny.mono_l : ∀ k, (∀ y0 y1 y2, LeO (impl_ReadPuny.j1 k y0 y1 y2) (impl_ReadPuny.j1 (k + 1) y0 y1 y2)) ∧ (∀ y0 y1 y2 y3 y4 y5 y6, LeO (impl_ReadPuny.l1 k y0 y1 y2 y3 y4 y5 y6) (impl_ReadPuny.l1 (k + 1) y0 y1 y2 y3 y4 y5 y6)) ∧ (∀ y0 y1 y2 y3 y4 y5 y6 y7, LeO (impl_ReadPuny.j3 k y0 y1 y2 y3 y4 y5 y6 y7) (impl_ReadPuny.j3 (k + 1) y0 y1 y2 y3 y4 y5 y6 y7)) ∧ (∀ y0 y1 y2 y3 y4 y5 y6 y7 y8 y9, LeO (impl_ReadPuny.l2 k y0 y1 y2 y3 y4 y5 y6 y7 y8 y9) (impl_ReadPuny.l2 (k + 1) y0 y1 y2 y3 y4 y5 y6 y7 y8 y9)) ∧ (∀ y0 y1 y2 y3 y4 y5 y6 y7 y8 y9 y10, LeO (impl_ReadPuny.j5 k y0 y1 y2 y3 y4 y5 y6 y7 y8 y9 y10) (impl_ReadPuny.j5 (k + 1) y0 y1 y2 y3 y4 y5 y6 y7 y8 y9 y10)) ∧ (∀ y0 y1 y2 y3 y4, LeO (impl_ReadPuny.l0 k y0 y1 y2 y3 y4) (impl_ReadPuny.l0 (k + 1) y0 y1 y2 y3 y4))
  | 0 => ⟨fun _ _ _ r h => by simp [impl_ReadPuny.j1] at h, fun _ _ _ _ _ _ _ r h => by simp [impl_ReadPuny.l1] at h, fun _ _ _ _ _ _ _ _ r h => by simp [impl_ReadPuny.j3] at h, fun _ _ _ _ _ _ _ _ _ _ r h => by simp [impl_ReadPuny.l2] at h, fun _ _ _ _ _ _ _ _ _ _ _ r h => by simp [impl_ReadPuny.j5] at h, fun _ _ _ _ _ r h => by simp [impl_ReadPuny.l0] at h⟩
  | k + 1 => by
    obtain ⟨ih0, ih1, ih2, ih3, ih4, ih5⟩ := impl_ReadPuny.mono_l k
    refine ⟨?_, ?_, ?_, ?_, ?_, ?_⟩
    · intro y0 y1 y2
      unfold impl_ReadPuny.j1
      repeat' first
      | (with_reducible exact ih0 _ _ _)
      | (with_reducible exact ih1 _ _ _ _ _ _ _)
      | (with_reducible exact ih2 _ _ _ _ _ _ _ _)
      | (with_reducible exact ih3 _ _ _ _ _ _ _ _ _ _)
      | (with_reducible exact ih4 _ _ _ _ _ _ _ _ _ _ _)
      | (with_reducible exact ih5 _ _ _ _ _)
      | (with_reducible exact impl_adapted.mono _ _ _ _)
      | (with_reducible exact impl_digitOf.mono _ _)
      | (with_reducible exact impl_isWord.mono _ _)
      | (with_reducible exact impl_puny.mono _ _)
      | (with_reducible exact strings_LastIndexByte.mono _ _ _)
      | (with_reducible exact LeO.refl _)
      | (with_reducible exact LeO.none _)
      | (with_reducible refine LeO.ite ?_ ?_)
      | (with_reducible refine LeO.bind ?_ (fun _ => ?_))
      | exact ih0 _ _ _
      | exact ih1 _ _ _ _ _ _ _
      | exact ih2 _ _ _ _ _ _ _ _
      | exact ih3 _ _ _ _ _ _ _ _ _ _
      | exact ih4 _ _ _ _ _ _ _ _ _ _ _
      | exact ih5 _ _ _ _ _
      | exact impl_adapted.mono _ _ _ _
      | exact impl_digitOf.mono _ _
      | exact impl_isWord.mono _ _
      | exact impl_puny.mono _ _
      | exact strings_LastIndexByte.mono _ _ _
      | exact LeO.none _
      | refine LeO.ite ?_ ?_
      | refine LeO.bind ?_ (fun _ => ?_)
    · intro y0 y1 y2 y3 y4 y5 y6
      unfold impl_ReadPuny.l1
      repeat' first
      | (with_reducible exact ih0 _ _ _)
      | (with_reducible exact ih1 _ _ _ _ _ _ _)
      | (with_reducible exact ih2 _ _ _ _ _ _ _ _)
      | (with_reducible exact ih3 _ _ _ _ _ _ _ _ _ _)
      | (with_reducible exact ih4 _ _ _ _ _ _ _ _ _ _ _)
      | (with_reducible exact ih5 _ _ _ _ _)
      | (with_reducible exact impl_adapted.mono _ _ _ _)
      | (with_reducible exact impl_digitOf.mono _ _)
      | (with_reducible exact impl_isWord.mono _ _)
      | (with_reducible exact impl_puny.mono _ _)
      | (with_reducible exact strings_LastIndexByte.mono _ _ _)
      | (with_reducible exact LeO.refl _)
      | (with_reducible exact LeO.none _)
      | (with_reducible refine LeO.ite ?_ ?_)
      | (with_reducible refine LeO.bind ?_ (fun _ => ?_))
      | exact ih0 _ _ _
      | exact ih1 _ _ _ _ _ _ _
      | exact ih2 _ _ _ _ _ _ _ _
      | exact ih3 _ _ _ _ _ _ _ _ _ _
      | exact ih4 _ _ _ _ _ _ _ _ _ _ _
      | exact ih5 _ _ _ _ _
      | exact impl_adapted.mono _ _ _ _
      | exact impl_digitOf.mono _ _
      | exact impl_isWord.mono _ _
      | exact impl_puny.mono _ _
      | exact strings_LastIndexByte.mono _ _ _
      | exact LeO.none _
      | refine LeO.ite ?_ ?_
      | refine LeO.bind ?_ (fun _ => ?_)
    · intro y0 y1 y2 y3 y4 y5 y6 y7
      unfold impl_ReadPuny.j3
      repeat' first
      | (with_reducible exact ih0 _ _ _)
      | (with_reducible exact ih1 _ _ _ _ _ _ _)
      | (with_reducible exact ih2 _ _ _ _ _ _ _ _)
      | (with_reducible exact ih3 _ _ _ _ _ _ _ _ _ _)
      | (with_reducible exact ih4 _ _ _ _ _ _ _ _ _ _ _)
      | (with_reducible exact ih5 _ _ _ _ _)
      | (with_reducible exact impl_adapted.mono _ _ _ _)
      | (with_reducible exact impl_digitOf.mono _ _)
      | (with_reducible exact impl_isWord.mono _ _)
      | (with_reducible exact impl_puny.mono _ _)
      | (with_reducible exact strings_LastIndexByte.mono _ _ _)
      | (with_reducible exact LeO.refl _)
      | (with_reducible exact LeO.none _)
      | (with_reducible refine LeO.ite ?_ ?_)
      | (with_reducible refine LeO.bind ?_ (fun _ => ?_))
      | exact ih0 _ _ _
      | exact ih1 _ _ _ _ _ _ _
      | exact ih2 _ _ _ _ _ _ _ _
      | exact ih3 _ _ _ _ _ _ _ _ _ _
      | exact ih4 _ _ _ _ _ _ _ _ _ _ _
      | exact ih5 _ _ _ _ _
      | exact impl_adapted.mono _ _ _ _
      | exact impl_digitOf.mono _ _
      | exact impl_isWord.mono _ _
      | exact impl_puny.mono _ _
      | exact strings_LastIndexByte.mono _ _ _
      | exact LeO.none _
      | refine LeO.ite ?_ ?_
      | refine LeO.bind ?_ (fun _ => ?_)
    · intro y0 y1 y2 y3 y4 y5 y6 y7 y8 y9
      unfold impl_ReadPuny.l2
      repeat' first
      | (with_reducible exact ih0 _ _ _)
      | (with_reducible exact ih1 _ _ _ _ _ _ _)
      | (with_reducible exact ih2 _ _ _ _ _ _ _ _)
      | (with_reducible exact ih3 _ _ _ _ _ _ _ _ _ _)
      | (with_reducible exact ih4 _ _ _ _ _ _ _ _ _ _ _)
      | (with_reducible exact ih5 _ _ _ _ _)
      | (with_reducible exact impl_adapted.mono _ _ _ _)
      | (with_reducible exact impl_digitOf.mono _ _)
      | (with_reducible exact impl_isWord.mono _ _)
      | (with_reducible exact impl_puny.mono _ _)
      | (with_reducible exact strings_LastIndexByte.mono _ _ _)
      | (with_reducible exact LeO.refl _)
      | (with_reducible exact LeO.none _)
      | (with_reducible refine LeO.ite ?_ ?_)
      | (with_reducible refine LeO.bind ?_ (fun _ => ?_))
      | exact ih0 _ _ _
      | exact ih1 _ _ _ _ _ _ _
      | exact ih2 _ _ _ _ _ _ _ _
      | exact ih3 _ _ _ _ _ _ _ _ _ _
      | exact ih4 _ _ _ _ _ _ _ _ _ _ _
      | exact ih5 _ _ _ _ _
      | exact impl_adapted.mono _ _ _ _
      | exact impl_digitOf.mono _ _
      | exact impl_isWord.mono _ _
      | exact impl_puny.mono _ _
      | exact strings_LastIndexByte.mono _ _ _
      | exact LeO.none _
      | refine LeO.ite ?_ ?_
      | refine LeO.bind ?_ (fun _ => ?_)
    · intro y0 y1 y2 y3 y4 y5 y6 y7 y8 y9 y10
      unfold impl_ReadPuny.j5
      repeat' first
      | (with_reducible exact ih0 _ _ _)
      | (with_reducible exact ih1 _ _ _ _ _ _ _)
      | (with_reducible exact ih2 _ _ _ _ _ _ _ _)
      | (with_reducible exact ih3 _ _ _ _ _ _ _ _ _ _)
      | (with_reducible exact ih4 _ _ _ _ _ _ _ _ _ _ _)
      | (with_reducible exact ih5 _ _ _ _ _)
      | (with_reducible exact impl_adapted.mono _ _ _ _)
      | (with_reducible exact impl_digitOf.mono _ _)
      | (with_reducible exact impl_isWord.mono _ _)
      | (with_reducible exact impl_puny.mono _ _)
      | (with_reducible exact strings_LastIndexByte.mono _ _ _)
      | (with_reducible exact LeO.refl _)
      | (with_reducible exact LeO.none _)
      | (with_reducible refine LeO.ite ?_ ?_)
      | (with_reducible refine LeO.bind ?_ (fun _ => ?_))
      | exact ih0 _ _ _
      | exact ih1 _ _ _ _ _ _ _
      | exact ih2 _ _ _ _ _ _ _ _
      | exact ih3 _ _ _ _ _ _ _ _ _ _
      | exact ih4 _ _ _ _ _ _ _ _ _ _ _
      | exact ih5 _ _ _ _ _
      | exact impl_adapted.mono _ _ _ _
      | exact impl_digitOf.mono _ _
      | exact impl_isWord.mono _ _
      | exact impl_puny.mono _ _
      | exact strings_LastIndexByte.mono _ _ _
      | exact LeO.none _
      | refine LeO.ite ?_ ?_
      | refine LeO.bind ?_ (fun _ => ?_)
    · intro y0 y1 y2 y3 y4
      unfold impl_ReadPuny.l0
      repeat' first
      | (with_reducible exact ih0 _ _ _)
      | (with_reducible exact ih1 _ _ _ _ _ _ _)
      | (with_reducible exact ih2 _ _ _ _ _ _ _ _)
      | (with_reducible exact ih3 _ _ _ _ _ _ _ _ _ _)
      | (with_reducible exact ih4 _ _ _ _ _ _ _ _ _ _ _)
      | (with_reducible exact ih5 _ _ _ _ _)
      | (with_reducible exact impl_adapted.mono _ _ _ _)
      | (with_reducible exact impl_digitOf.mono _ _)
      | (with_reducible exact impl_isWord.mono _ _)
      | (with_reducible exact impl_puny.mono _ _)
      | (with_reducible exact strings_LastIndexByte.mono _ _ _)
      | (with_reducible exact LeO.refl _)
      | (with_reducible exact LeO.none _)
      | (with_reducible refine LeO.ite ?_ ?_)
      | (with_reducible refine LeO.bind ?_ (fun _ => ?_))
      | exact ih0 _ _ _
      | exact ih1 _ _ _ _ _ _ _
      | exact ih2 _ _ _ _ _ _ _ _
      | exact ih3 _ _ _ _ _ _ _ _ _ _
      | exact ih4 _ _ _ _ _ _ _ _ _ _ _
      | exact ih5 _ _ _ _ _
      | exact impl_adapted.mono _ _ _ _
      | exact impl_digitOf.mono _ _
      | exact impl_isWord.mono _ _
      | exact impl_puny.mono _ _
      | exact strings_LastIndexByte.mono _ _ _
      | exact LeO.none _
      | refine LeO.ite ?_ ?_
      | refine LeO.bind ?_ (fun _ => ?_)
theorem impl_ReadPuny.mono : ∀ a0 k, LeO (impl_ReadPuny.f k a0) (impl_ReadPuny.f (k + 1) a0) := by
  intro a0 k
  obtain ⟨ih0, ih1, ih2, ih3, ih4, ih5⟩ := impl_ReadPuny.mono_l k
  unfold impl_ReadPuny.f
  repeat' first
      | (with_reducible exact ih0 _ _ _)
      | (with_reducible exact ih1 _ _ _ _ _ _ _)
      | (with_reducible exact ih2 _ _ _ _ _ _ _ _)
      | (with_reducible exact ih3 _ _ _ _ _ _ _ _ _ _)
      | (with_reducible exact ih4 _ _ _ _ _ _ _ _ _ _ _)
      | (with_reducible exact ih5 _ _ _ _ _)
      | (with_reducible exact impl_adapted.mono _ _ _ _)
      | (with_reducible exact impl_digitOf.mono _ _)
      | (with_reducible exact impl_isWord.mono _ _)
      | (with_reducible exact impl_puny.mono _ _)
      | (with_reducible exact strings_LastIndexByte.mono _ _ _)
      | (with_reducible exact LeO.refl _)
      | (with_reducible exact LeO.none _)
      | (with_reducible refine LeO.ite ?_ ?_)
      | (with_reducible refine LeO.bind ?_ (fun _ => ?_))
      | exact ih0 _ _ _
      | exact ih1 _ _ _ _ _ _ _
      | exact ih2 _ _ _ _ _ _ _ _
      | exact ih3 _ _ _ _ _ _ _ _ _ _
      | exact ih4 _ _ _ _ _ _ _ _ _ _ _
      | exact ih5 _ _ _ _ _
      | exact impl_adapted.mono _ _ _ _
      | exact impl_digitOf.mono _ _
      | exact impl_isWord.mono _ _
      | exact impl_puny.mono _ _
      | exact strings_LastIndexByte.mono _ _ _
      | exact LeO.none _
      | refine LeO.ite ?_ ?_
      | refine LeO.bind ?_ (fun _ => ?_)
set_option maxHeartbeats 8000000 in
set_option maxRecDepth 100000 in
theorem impl_ReadPuny.calls (k : Nat) (a0 : ByteArray) (r1 : List Int) (r2 : Bool) (w : World) (h : impl_ReadPuny.f k a0 = some (r1, r2)) :
    Calls Try.prog 27 #[.string a0] w fun e w' => ∃ v0_ : Value, e = .returned (.tuple #[v0_, .bool r2]) ∧ Kd.R (Kd.int .i64) 3 w' w.heap.size (fun _ => True) v0_ r1 ∧ Below w.heap.size w w' := by
  have HB := Aside0.mk (Below.refl w.heap.size w)
  have H : (if (a0.size : Int) > 60 then (some (([] : List Int), false)) else ((some (([] : List Int) : List Int)).bind fun y256 => ((strings_LastIndexByte.f k a0 45).bind fun t259 => (if t259 ≥ 0 then (if 0 ≤ (wrap64 (t259 + 1)) then (if (wrap64 (t259 + 1)) ≤ (a0.size : Int) then (impl_ReadPuny.l0 k a0 y256 (a0.extract ((wrap64 (t259 + 1)) : Int).toNat a0.size) t259 0) else (none)) else (none)) else (impl_ReadPuny.j1 k a0 y256 a0))))) = some (r1, r2) := h
  clear h
  by_cases c2 : (a0.size : Int) > 60
  · rw [if_pos c2] at H
    have c2b0 : decide (60 < (a0.size : Int)) = true := decide_eq_true c2
    have c2b1 : decide (60 < a0.size) = true := decide_eq_true (by omega)
    clear c2
    simp only [Option.some.injEq, Prod.mk.injEq] at H
    obtain ⟨rfl, rfl⟩ := H
    go_enter Try.func27, Try.ntmps27
    go_wp2
    go_ret2
    exact ⟨_, by first | rfl | (simp [errW_none, errW_some] <;> rfl) | (simp [*, errW_none, errW_some] <;> rfl), by first | exact Kd.R_nil _ _ _ _ _ | exact Kd.N_nil _ _ _ _ _ | exact Kd.V_nil _ _ _ _ _ | exact Kd.Q_nil _ _ _ _ _ | exact Kd.S_nil _ _ _ _ _, by repeat (first | (with_reducible first | exact HB.out | apply below_alloc | apply pw_below_drewN | apply below_drew1) | exact HB.out)⟩
  · rw [if_neg c2] at H
    have c2b0 : decide (60 < (a0.size : Int)) = false := decide_eq_false c2
    have c2b1 : decide (60 < a0.size) = false := decide_eq_false (by omega)
    clear c2
    obtain ⟨y256, hy256⟩ : ∃ y_ : List Int, y_ = (([] : List Int)) := ⟨_, rfl⟩
    replace H : ((strings_LastIndexByte.f k a0 45).bind fun t259 => (if t259 ≥ 0 then (if 0 ≤ (wrap64 (t259 + 1)) then (if (wrap64 (t259 + 1)) ≤ (a0.size : Int) then (impl_ReadPuny.l0 k a0 y256 (a0.extract ((wrap64 (t259 + 1)) : Int).toNat a0.size) t259 0) else (none)) else (none)) else (impl_ReadPuny.j1 k a0 y256 a0))) = some (r1, r2) := by first | (rw [hy256]; with_reducible exact H) | (have H2_ := (Option.bind_some _ _).symm.trans H; rw [hy256]; with_reducible exact H2_) | (have H2_ := (Option.bind_some _ _).symm.trans H; with_reducible exact H2_) | with_reducible exact H | (rw [hy256]; exact H) | exact H
    have Ny256 := Aside0.mk hy256
    clear hy256
    replace H := Option.bind_eq_some_iff.mp H
    obtain ⟨t259, A30, H⟩ := H
    replace H : (if t259 ≥ 0 then (if 0 ≤ (wrap64 (t259 + 1)) then (if (wrap64 (t259 + 1)) ≤ (a0.size : Int) then (impl_ReadPuny.l0 k a0 y256 (a0.extract ((wrap64 (t259 + 1)) : Int).toNat a0.size) t259 0) else (none)) else (none)) else (impl_ReadPuny.j1 k a0 y256 a0)) = some (r1, r2) := H
    have A3 := Aside0.mk A30
    clear A30
    have HC4 := Aside0.mk H
    clear H
    go_enter Try.func27, Try.ntmps27
    go_upto_if 25 with (first | ((with_reducible refine gate_dst (N := 20) rfl ?_); (try (refine gate_guard (by rfl) ?_; dsimp only)); refine Kd.R_lit (Kd.int .i64) _ 3 ?hg (N := 20) ?hd (xs := ([] : List Int)) (inner := []) (ok := fun _ => True) (okp := fun _ => True) ?hr ?hp (fun _ hk => hk) trivial (Below.refl _ _) (Nat.le_refl _) (by simp) ?_; (case hd => rfl); (case hg => rfl); (case hr => first | (go_simp; done) | (go_simp; rfl)); (case hp => exact (Reps.none _ _)); intro v257 w5 ho6 hb hg_ hnew_; clear hg_ hnew_; (first | rw [← Ny256.out] at ho6 | (simp only [Int.reduceToNat] at ho6; rw [← Ny256.out] at ho6)); have n0_ := Aside0.mk (Kd.R_lower ho6 (below_size (by repeat (first | (with_reducible first | exact HB.out | apply below_alloc | apply pw_below_drewN | apply below_drew1) | exact HB.out)))); have n1_ := Aside0.mk (below_step (by repeat (first | (with_reducible first | exact HB.out | apply below_alloc | apply pw_below_drewN | apply below_drew1) | exact HB.out)) hb); clear HB; have HO258 := n0_; have HB := n1_; clear n0_ n1_; clear hb ho6) | ((with_reducible refine gate_callee (f := 73) rfl ?_); refine goesL_ (some 23) rfl rfl Try.func73 (by kernel_rfl) rfl #[.string a0, .int .u8 45] rfl (by (try simp only [List.map_toArray, List.map_cons, List.map_nil]); first | done | rfl | (simp only [List.length_drop, List.length_take]; rfl)) ?_; (with_reducible refine (strings_LastIndexByte.calls k a0 45 t259 _ A3.out).mono ?_); rintro e w' ⟨rfl, ⟨nd, rfl⟩⟩; refine ⟨_, rfl, ?_⟩))
    (try simp only [Act.put, List.setIfInBounds_toArray, List.set_cons_zero, List.set_cons_succ])
    go_cut [4, 5] (fun v4 v5 wc => ∃ (kq : Nat) (x4_3 : List Int) (x5_3 : ByteArray), v5 = .string x5_3 ∧ Aside0 (impl_ReadPuny.j1 kq a0 x4_3 x5_3 = some (r1, r2)) ∧ Aside0 (kq ≤ k) ∧ Aside0 (Kd.R (Kd.int .i64) 3 wc w.heap.size (fun _ => True) v4 x4_3) ∧ Aside0 (Below w.heap.size w wc))
    case first =>
      have H := HC4.out
      clear HC4
      by_cases c7 : t259 ≥ 0
      · rw [if_pos c7] at H
        have c7b0 : decide (0 ≤ t259) = true := decide_eq_true c7
        clear c7
        (first | rw [c7b0] | (simp only [i64_w, i32_w]; rw [c7b0]) | skip)
        obtain ⟨ji8, hji8⟩ : ∃ j_ : Int, (wrap64 (t259 + 1)) = j_ := ⟨_, rfl⟩
        replace H : (if 0 ≤ (ji8) then (if (ji8) ≤ (a0.size : Int) then (impl_ReadPuny.l0 k a0 y256 (a0.extract ((ji8) : Int).toNat a0.size) t259 0) else (none)) else (none)) = some (r1, r2) := by first | (rw [hji8] at H; exact H) | (simp only [hji8] at H ⊢; exact H)
        have hji8w : (IntKind.i64.wrap (t259 + 1)) = ji8 := (i64_w _).trans hji8
        by_cases c9 : 0 ≤ (ji8)
        · rw [if_pos c9] at H
          have c9b0 := eq_true c9
          have c9b1 : decide (0 ≤ (ji8)) = true := decide_eq_true c9
          clear c9
          by_cases c10 : (ji8) ≤ (a0.size : Int)
          · rw [if_pos c10] at H
            have c10b0 := eq_true c10
            have c10b1 : decide ((ji8) ≤ (a0.size : Int)) = true := decide_eq_true c10
            clear c10
            have H' := Aside0.mk H
            clear H
            go_wp2
            go_loopg [4, 31] k (fun kq v4 v31 w' => ∃ (x4_1 : List Int) (x31_1 : Int), v31 = .int .i64 x31_1 ∧ Aside0 (impl_ReadPuny.l0 kq a0 x4_1 (a0.extract ((ji8) : Int).toNat a0.size) t259 x31_1 = some (r1, r2)) ∧ Aside0 (kq ≤ k) ∧ Aside0 (Kd.R (Kd.int .i64) 3 w' w.heap.size (fun _ => True) v4 x4_1) ∧ Aside0 (Below w.heap.size w w'))
            case atStart => exact ⟨(y256), (0), (by first | rfl | (simp; done) | (simp [*]; done)), H', ⟨Nat.le_refl _⟩, ⟨by (with_reducible repeat (first | apply Kd.R_alloc | apply Kd.R_drewN | apply Kd.R_drew)); exact HO258.out⟩, ⟨by repeat (first | (with_reducible first | exact HB.out | apply below_alloc | apply pw_below_drewN | apply below_drew1) | exact HB.out)⟩⟩
            case round =>
              clear H'
              try clear c1
              try clear c2
              try clear c2b0
              try clear c2b1
              try clear p2
              try clear p6
              try clear c7
              try clear c7b0
              try clear c9
              try clear c9b0
              try clear c9b1
              try clear c10
              try clear c10b0
              try clear c10b1
              obtain ⟨x4_1, x31_1, rfl, HA, HK1, HO_4, HB⟩ := hrel
              cases gk with
              | zero => exact absurd HA.out (by simp [impl_ReadPuny.l0])
              | succ k1 =>
                have H := HA.out
                clear HA
                simp only [impl_ReadPuny.l0] at H
                by_cases c11 : x31_1 < t259
                · rw [if_pos c11] at H
                  have c11b0 : decide (x31_1 < t259) = true := decide_eq_true c11
                  clear c11
                  by_cases c12 : 0 ≤ x31_1
                  · rw [if_pos c12] at H
                    have c12b0 : decide (0 ≤ x31_1) = true := decide_eq_true c12
                    clear c12
                    by_cases c13 : x31_1 < (a0.size : Int)
                    · rw [if_pos c13] at H
                      have c13b0 : decide (x31_1 < (a0.size : Int)) = true := decide_eq_true c13
                      clear c13
                      by_cases c15 : x4_1.length < 17592186044416
                      · rw [if_pos c15] at H
                        have LMc15 := Aside0.mk c15
                        clear c15
                        obtain ⟨y260, hy260⟩ : ∃ y_ : List Int, y_ = (x4_1 ++ [wrap64 (bt a0 x31_1)]) := ⟨_, rfl⟩
                        replace H : (impl_ReadPuny.l0 k1 a0 y260 (a0.extract ((ji8) : Int).toNat a0.size) t259 (wrap64 (x31_1 + 1))) = some (r1, r2) := by first | (rw [hy260]; with_reducible exact H) | (have H2_ := (Option.bind_some _ _).symm.trans H; rw [hy260]; with_reducible exact H2_) | (have H2_ := (Option.bind_some _ _).symm.trans H; with_reducible exact H2_) | with_reducible exact H | (rw [hy260]; exact H) | exact H
                        have Ny260 := Aside0.mk hy260
                        clear hy260
                        have H' := Aside0.mk H
                        clear H
                        have p14 : 0 ≤ (x31_1 : Int) := of_decide_eq_true (by first | (with_reducible assumption) | assumption)
                        have q14 : x31_1 < (a0.size : Int) := of_decide_eq_true (by first | (with_reducible assumption) | assumption)
                        have hx14 := bt_at a0 x31_1
                        replace p14 := eq_true p14
                        replace q14 := eq_true q14
                        go_wp2_with (first | ((with_reducible refine gate_builtin (b := .append) (xs := #[.tmp 34, .tmp 39]) rfl ?_); (try (refine gate_guard (by rfl) ?_; dsimp only)); at_builtin; refine Kd.R_append (Kd.int .i64) (w0 := w) w.heap.size rfl (.tmp 34) (.tmp 39) 39 3 (.int .i64 0) 8 rfl Try.underlying39 info3 rfl (by decide) (by omega) u4 x4_1 (wrap64 (bt a0 x31_1)) [.int .i64 (wrap64 (bt a0 x31_1))] (fun _ => True) (fun _ => False) rfl rfl ?aP (fun _ hk => hk.elim) ?aF ?aO ?aB ?aS ?aL ?_; (case aP => exact rfl); (case aB => exact (by repeat (first | (with_reducible first | exact HB.out | apply below_alloc | apply pw_below_drewN | apply below_drew1) | exact HB.out))); (case aF => exact (fun _ _ => trivial)); (case aO => exact (by (with_reducible repeat (first | apply Kd.R_alloc | apply Kd.R_drewN | apply Kd.R_drew)); exact HO_4.out)); (case aS => exact (below_size (by repeat (first | (with_reducible first | exact HB.out | apply below_alloc | apply pw_below_drewN | apply below_drew1) | exact HB.out)))); (case aL => have := LMc15.out; omega); intro v261 w16 ho hb hg hat; rw [← Ny260.out] at ho; have n0_ := Aside0.mk (hb); have n1_ := Aside0.mk (ho); clear HB; clear HO_4; have HB := n0_; have HO262 := n1_; clear n0_ n1_; clear ho hb hg hat))
                        go_roundg k1
                        case measure => have := HK1.out; omega
                        case rel => exact ⟨(y260), (wrap64 (x31_1 + 1)), (by first | rfl | (simp; done) | (simp [*]; done)), H', ⟨by have := HK1.out; omega⟩, ⟨by (with_reducible repeat (first | apply Kd.R_alloc | apply Kd.R_drewN | apply Kd.R_drew)); exact HO262.out⟩, ⟨by repeat (first | (with_reducible first | exact HB.out | apply below_alloc | apply pw_below_drewN | apply below_drew1) | exact HB.out)⟩⟩
                      · rw [if_neg c15] at H
                        exact absurd H (by simp)
                    · rw [if_neg c13] at H
                      exact absurd H (by simp)
                  · rw [if_neg c12] at H
                    exact absurd H (by simp)
                · rw [if_neg c11] at H
                  have c11b0 : decide (x31_1 < t259) = false := decide_eq_false c11
                  clear c11
                  have H' := Aside0.mk H
                  clear H
                  go_wp2
                  go_meet
                  case rel => exact ⟨_, (x4_1), ((a0.extract ((ji8) : Int).toNat a0.size)), (by first | rfl | (simp; done) | (simp only [← hji8] <;> (first | rfl | simp)) | (simp [*]; done)), H', ⟨by have := HK1.out; first | omega | exact Nat.le_refl _⟩, ⟨by (with_reducible repeat (first | apply Kd.R_alloc | apply Kd.R_drewN | apply Kd.R_drew)); exact HO_4.out⟩, ⟨by repeat (first | (with_reducible first | exact HB.out | apply below_alloc | apply pw_below_drewN | apply below_drew1) | exact HB.out)⟩⟩
          · rw [if_neg c10] at H
            exact absurd H (by simp)
        · rw [if_neg c9] at H
          exact absurd H (by simp)
      · rw [if_neg c7] at H
        have c7b0 : decide (0 ≤ t259) = false := decide_eq_false c7
        clear c7
        (first | rw [c7b0] | (simp only [i64_w, i32_w]; rw [c7b0]) | skip)
        have H' := Aside0.mk H
        clear H
        go_wp2
        go_meet
        case rel => exact ⟨_, (y256), (a0), (by first | rfl | (simp; done) | (simp [*]; done)), H', ⟨by first | omega | exact Nat.le_refl _⟩, ⟨by (with_reducible repeat (first | apply Kd.R_alloc | apply Kd.R_drewN | apply Kd.R_drew)); exact HO258.out⟩, ⟨by repeat (first | (with_reducible first | exact HB.out | apply below_alloc | apply pw_below_drewN | apply below_drew1) | exact HB.out)⟩⟩
    case rest =>
      clear HC4
      try clear c1
      try clear p1
      try clear q1
      try clear hx1
      try clear c2
      try clear c2b0
      try clear c2b1
      try clear p2
      try clear p6
      try clear c7
      try clear c7b0
      try clear c9
      try clear c9b0
      try clear c9b1
      try clear c10
      try clear c10b0
      try clear c10b1
      try clear c11
      try clear c11b0
      try clear c12
      try clear c12b0
      try clear c13
      try clear c13b0
      try clear p14
      try clear q14
      try clear hx14
      try clear c15
      try clear p14
      try clear p2
      try clear p6
      try clear q14
      obtain ⟨kq, x4_3, x5_3, rfl, HA, HJ3, HO_4, HB⟩ := hcut
      cases kq with
      | zero => exact absurd HA.out (by simp [impl_ReadPuny.j1])
      | succ kj3 =>
        have H := HA.out
        clear HA
        simp only [impl_ReadPuny.j1] at H
        have H' := Aside0.mk H
        clear H
        obtain ⟨Ao17, co17, eo17⟩ := Kd.R_slice HO_4.out
        subst eo17
        go_wp2
        go_loopg [4, 5, 9, 10, 11] kj3 (fun kq v4 v5 v9 v10 v11 w' => ∃ (x4_2 : List Int) (x5_2 : ByteArray) (x9_2 : Int) (x10_2 : Int) (x11_2 : Int), v5 = .string x5_2 ∧ v9 = .int .i64 x9_2 ∧ v10 = .int .i64 x10_2 ∧ v11 = .int .i64 x11_2 ∧ Aside0 (impl_ReadPuny.l1 kq a0 x4_2 x5_2 (x4_3.length : Int) x9_2 x10_2 x11_2 = some (r1, r2)) ∧ Aside0 (kq ≤ kj3) ∧ Aside0 (Kd.R (Kd.int .i64) 3 w' w.heap.size (fun _ => True) v4 x4_2) ∧ Aside0 (Below w.heap.size w w'))
        case atStart => exact ⟨(x4_3), (x5_3), (128), (0), (72), (by first | rfl | (simp; done) | (simp [*]; done)), (by first | rfl | (simp; done) | (simp [*]; done)), (by first | rfl | (simp; done) | (simp [*]; done)), (by first | rfl | (simp; done) | (simp [*]; done)), H', ⟨Nat.le_refl _⟩, ⟨by (with_reducible repeat (first | apply Kd.R_alloc | apply Kd.R_drewN | apply Kd.R_drew)); exact HO_4.out⟩, ⟨by repeat (first | (with_reducible first | exact HB.out | apply below_alloc | apply pw_below_drewN | apply below_drew1) | exact HB.out)⟩⟩
        case round =>
          clear H'
          try clear c1
          try clear p1
          try clear q1
          try clear hx1
          try clear c2
          try clear c2b0
          try clear c2b1
          try clear p2
          try clear p6
          try clear c7
          try clear c7b0
          try clear c9
          try clear c9b0
          try clear c9b1
          try clear c10
          try clear c10b0
          try clear c10b1
          try clear c11
          try clear c11b0
          try clear c12
          try clear c12b0
          try clear c13
          try clear c13b0
          try clear p14
          try clear q14
          try clear hx14
          try clear c15
          try clear p1
          try clear p14
          try clear p2
          try clear p6
          try clear q1
          try clear q14
          obtain ⟨x4_2, x5_2, x9_2, x10_2, x11_2, rfl, rfl, rfl, rfl, HA, HK2, HO_4, HB⟩ := hrel
          cases gk with
          | zero => exact absurd HA.out (by simp [impl_ReadPuny.l1])
          | succ k2 =>
            have H := HA.out
            clear HA
            simp only [impl_ReadPuny.l1] at H
            have HC18 := Aside0.mk H
            clear H
            go_upto_region 14 with (fail)
            go_cut [50] (fun v50 wc => ∃ (kq : Nat) (x50_17 : Bool), v50 = .bool x50_17 ∧ Aside0 (impl_ReadPuny.j3 kq a0 x4_2 x5_2 (x4_3.length : Int) x9_2 x10_2 x11_2 x50_17 = some (r1, r2)) ∧ Aside0 (kq ≤ k2) ∧ Aside0 (Kd.R (Kd.int .i64) 3 wc w.heap.size (fun _ => True) u4 x4_2) ∧ Aside0 (Below w.heap.size w wc))
            case first =>
              have H := HC18.out
              clear HC18
              by_cases c19 : x5_2.toList = ([] : List UInt8)
              · rw [if_pos c19] at H
                have c19b0 : (x5_2.toList == ([] : List UInt8)) = true := beq_iff_eq.mpr c19
                have c19b1 : (x5_2.toList != ([] : List UInt8)) = false := bne_eq_false_iff_eq.mpr c19
                clear c19
                (first | rw [c19b0] | (simp only [i64_w, i32_w]; rw [c19b0]) | skip)
                have H' := Aside0.mk H
                clear H
                go_wp2
                go_meet
                case rel => exact ⟨_, (false), (by first | rfl | (simp; done) | (simp [*]; done)), H', ⟨by have := HJ3.out; have := HK2.out; first | omega | exact Nat.le_refl _⟩, ⟨by (with_reducible repeat (first | apply Kd.R_alloc | apply Kd.R_drewN | apply Kd.R_drew)); exact HO_4.out⟩, ⟨by repeat (first | (with_reducible first | exact HB.out | apply below_alloc | apply pw_below_drewN | apply below_drew1) | exact HB.out)⟩⟩
              · rw [if_neg c19] at H
                have c19b0 : (x5_2.toList == ([] : List UInt8)) = false := beq_eq_false_iff_ne.mpr c19
                have c19b1 : (x5_2.toList != ([] : List UInt8)) = true := bne_iff_ne.mpr c19
                (first | rw [c19b0] | (simp only [i64_w, i32_w]; rw [c19b0]) | skip)
                have H' := Aside0.mk H
                clear H
                obtain ⟨Ao20, co20, eo20⟩ := Kd.R_slice HO_4.out
                subst eo20
                go_wp2
                go_meet
                case rel => exact ⟨_, (decide ((x4_2.length : Int) ≤ 20)), (by first | rfl | (simp; done) | (simp [*]; done)), H', ⟨by have := HJ3.out; have := HK2.out; first | omega | exact Nat.le_refl _⟩, ⟨by (with_reducible repeat (first | apply Kd.R_alloc | apply Kd.R_drewN | apply Kd.R_drew)); exact HO_4.out⟩, ⟨by repeat (first | (with_reducible first | exact HB.out | apply below_alloc | apply pw_below_drewN | apply below_drew1) | exact HB.out)⟩⟩
            case rest =>
              clear HC18
              try clear c1
              try clear p1
              try clear q1
              try clear hx1
              try clear c2
              try clear c2b0
              try clear c2b1
              try clear p2
              try clear p6
              try clear c7
              try clear c7b0
              try clear c9
              try clear c9b0
              try clear c9b1
              try clear c10
              try clear c10b0
              try clear c10b1
              try clear c11
              try clear c11b0
              try clear c12
              try clear c12b0
              try clear c13
              try clear c13b0
              try clear p14
              try clear q14
              try clear hx14
              try clear c15
              try clear c19
              try clear c19b0
              try clear c19b1
              try clear p1
              try clear p14
              try clear p2
              try clear p6
              try clear q1
              try clear q14
              obtain ⟨kq, x50_17, rfl, HA, HJ17, HO_4, HB⟩ := hcut
              cases kq with
              | zero => exact absurd HA.out (by simp [impl_ReadPuny.j3])
              | succ kj17 =>
                have H := HA.out
                clear HA
                simp only [impl_ReadPuny.j3] at H
                by_cases c21 : x50_17 = true
                · subst c21
                  have H1 : (impl_ReadPuny.l2 kj17 a0 x4_2 x5_2 (x4_3.length : Int) x9_2 x10_2 x11_2 x10_2 1 36) = some (r1, r2) := by rw [if_pos rfl] at H; exact H
                  clear H
                  have H := H1
                  clear H1
                  have H' := Aside0.mk H
                  clear H
                  go_wp2
                  go_loopg [5, 10, 13, 14] kj17 (fun kq v5 v10 v13 v14 w' => ∃ (x5_4 : ByteArray) (x10_4 : Int) (x13_4 : Int) (x14_4 : Int), v5 = .string x5_4 ∧ v10 = .int .i64 x10_4 ∧ v13 = .int .i64 x13_4 ∧ v14 = .int .i64 x14_4 ∧ Aside0 (impl_ReadPuny.l2 kq a0 x4_2 x5_4 (x4_3.length : Int) x9_2 x10_4 x11_2 x10_2 x13_4 x14_4 = some (r1, r2)) ∧ Aside0 (kq ≤ kj17) ∧ Aside0 (Kd.R (Kd.int .i64) 3 w' w.heap.size (fun _ => True) u4 x4_2) ∧ Aside0 (Below w.heap.size w w'))
                  case atStart => exact ⟨(x5_2), (x10_2), (1), (36), (by first | rfl | (simp; done) | (simp [*]; done)), (by first | rfl | (simp; done) | (simp [*]; done)), (by first | rfl | (simp; done) | (simp [*]; done)), (by first | rfl | (simp; done) | (simp [*]; done)), H', ⟨Nat.le_refl _⟩, ⟨by (with_reducible repeat (first | apply Kd.R_alloc | apply Kd.R_drewN | apply Kd.R_drew)); exact HO_4.out⟩, ⟨by repeat (first | (with_reducible first | exact HB.out | apply below_alloc | apply pw_below_drewN | apply below_drew1) | exact HB.out)⟩⟩
                  case round =>
                    clear H'
                    try clear c1
                    try clear p1
                    try clear q1
                    try clear hx1
                    try clear c2
                    try clear c2b0
                    try clear c2b1
                    try clear p2
                    try clear p6
                    try clear c7
                    try clear c7b0
                    try clear c9
                    try clear c9b0
                    try clear c9b1
                    try clear c10
                    try clear c10b0
                    try clear c10b1
                    try clear c11
                    try clear c11b0
                    try clear c12
                    try clear c12b0
                    try clear c13
                    try clear c13b0
                    try clear p14
                    try clear q14
                    try clear hx14
                    try clear c15
                    try clear c19
                    try clear c19b0
                    try clear c19b1
                    try clear c21
                    try clear p1
                    try clear p14
                    try clear p2
                    try clear p6
                    try clear q1
                    try clear q14
                    obtain ⟨x5_4, x10_4, x13_4, x14_4, rfl, rfl, rfl, rfl, HA, HK4, HO_4, HB⟩ := hrel
                    cases gk with
                    | zero => exact absurd HA.out (by simp [impl_ReadPuny.l2])
                    | succ k4 =>
                      have H := HA.out
                      clear HA
                      simp only [impl_ReadPuny.l2] at H
                      have HC22 := Aside0.mk H
                      clear H
                      go_upto_region 18 with (fail)
                      go_cut [69] (fun v69 wc => ∃ (kq : Nat) (x69_21 : Bool), v69 = .bool x69_21 ∧ Aside0 (impl_ReadPuny.j5 kq a0 x4_2 x5_4 (x4_3.length : Int) x9_2 x10_4 x11_2 x10_2 x13_4 x14_4 x69_21 = some (r1, r2)) ∧ Aside0 (kq ≤ k4) ∧ Aside0 (Kd.R (Kd.int .i64) 3 wc w.heap.size (fun _ => True) u4 x4_2) ∧ Aside0 (Below w.heap.size w wc))
                      case first =>
                        have H := HC22.out
                        clear HC22
                        by_cases c23 : x5_4.toList = ([] : List UInt8)
                        · rw [if_pos c23] at H
                          have c23b0 : (x5_4.toList == ([] : List UInt8)) = true := beq_iff_eq.mpr c23
                          have c23b1 : (x5_4.toList != ([] : List UInt8)) = false := bne_eq_false_iff_eq.mpr c23
                          clear c23
                          (first | rw [c23b0] | (simp only [i64_w, i32_w]; rw [c23b0]) | skip)
                          have H' := Aside0.mk H
                          clear H
                          go_wp2
                          go_meet
                          case rel => exact ⟨_, (true), (by first | rfl | (simp; done) | (simp [*]; done)), H', ⟨by have := HJ3.out; have := HK2.out; have := HJ17.out; have := HK4.out; first | omega | exact Nat.le_refl _⟩, ⟨by (with_reducible repeat (first | apply Kd.R_alloc | apply Kd.R_drewN | apply Kd.R_drew)); exact HO_4.out⟩, ⟨by repeat (first | (with_reducible first | exact HB.out | apply below_alloc | apply pw_below_drewN | apply below_drew1) | exact HB.out)⟩⟩
                        · rw [if_neg c23] at H
                          have c23b0 : (x5_4.toList == ([] : List UInt8)) = false := beq_eq_false_iff_ne.mpr c23
                          have c23b1 : (x5_4.toList != ([] : List UInt8)) = true := bne_iff_ne.mpr c23
                          (first | rw [c23b0] | (simp only [i64_w, i32_w]; rw [c23b0]) | skip)
                          by_cases c24 : 0 < (x5_4.size : Int)
                          · rw [if_pos c24] at H
                            have c24b0 : decide (0 < (x5_4.size : Int)) = true := decide_eq_true c24
                            have c24b1 : decide (0 < x5_4.size) = true := decide_eq_true (by omega)
                            clear c24
                            replace H := Option.bind_eq_some_iff.mp H
                            obtain ⟨t263, A260, H⟩ := H
                            replace H : (if t263 < 0 then (impl_ReadPuny.j5 k4 a0 x4_2 x5_4 (x4_3.length : Int) x9_2 x10_4 x11_2 x10_2 x13_4 x14_4 true) else (if x10_4 > 1099511627776 then (impl_ReadPuny.j5 k4 a0 x4_2 x5_4 (x4_3.length : Int) x9_2 x10_4 x11_2 x10_2 x13_4 x14_4 true) else (impl_ReadPuny.j5 k4 a0 x4_2 x5_4 (x4_3.length : Int) x9_2 x10_4 x11_2 x10_2 x13_4 x14_4 (decide (x13_4 > 1099511627776))))) = some (r1, r2) := H
                            have A26 := Aside0.mk A260
                            clear A260
                            by_cases c27 : t263 < 0
                            · rw [if_pos c27] at H
                              have c27b0 : decide (t263 < 0) = true := decide_eq_true c27
                              clear c27
                              have H' := Aside0.mk H
                              clear H
                              have p25 : 0 ≤ (0 : Int) := (by omega)
                              have q25 : 0 < x5_4.size := (by have : (0 : Int) < (x5_4.size : Int) := of_decide_eq_true (by first | (with_reducible assumption) | assumption); omega)
                              have hx25 : ∀ h : 0 < x5_4.size, ((x5_4[0]'h).toNat : Int) = bt x5_4 0 := bt_at x5_4 0
                              clear p25
                              have qi25 : (0 < (x5_4.size : Int)) = True := eq_true (of_decide_eq_true (by first | (with_reducible assumption) | assumption))
                              replace q25 := eq_true q25
                              go_wp2_with (first | (go_at_call 74; (with_reducible refine (impl_digitOf.calls k4 (bt x5_4 0) t263 _ A26.out).mono ?_); rintro e w' ⟨rfl, ⟨nd, rfl⟩⟩))
                              go_meet
                              case rel => exact ⟨_, (true), (by first | rfl | (simp; done) | (simp [*]; done)), H', ⟨by have := HJ3.out; have := HK2.out; have := HJ17.out; have := HK4.out; first | omega | exact Nat.le_refl _⟩, ⟨by (with_reducible repeat (first | apply Kd.R_alloc | apply Kd.R_drewN | apply Kd.R_drew)); exact HO_4.out⟩, ⟨by repeat (first | (with_reducible first | exact HB.out | apply below_alloc | apply pw_below_drewN | apply below_drew1) | exact HB.out)⟩⟩
                            · rw [if_neg c27] at H
                              have c27b0 : decide (t263 < 0) = false := decide_eq_false c27
                              clear c27
                              by_cases c28 : x10_4 > 1099511627776
                              · rw [if_pos c28] at H
                                have c28b0 : decide (1099511627776 < x10_4) = true := decide_eq_true c28
                                clear c28
                                have H' := Aside0.mk H
                                clear H
                                have p25 : 0 ≤ (0 : Int) := (by omega)
                                have q25 : 0 < x5_4.size := (by have : (0 : Int) < (x5_4.size : Int) := of_decide_eq_true (by first | (with_reducible assumption) | assumption); omega)
                                have hx25 : ∀ h : 0 < x5_4.size, ((x5_4[0]'h).toNat : Int) = bt x5_4 0 := bt_at x5_4 0
                                clear p25
                                have qi25 : (0 < (x5_4.size : Int)) = True := eq_true (of_decide_eq_true (by first | (with_reducible assumption) | assumption))
                                replace q25 := eq_true q25
                                go_wp2_with (first | (go_at_call 74; (with_reducible refine (impl_digitOf.calls k4 (bt x5_4 0) t263 _ A26.out).mono ?_); rintro e w' ⟨rfl, ⟨nd, rfl⟩⟩))
                                go_meet
                                case rel => exact ⟨_, (true), (by first | rfl | (simp; done) | (simp [*]; done)), H', ⟨by have := HJ3.out; have := HK2.out; have := HJ17.out; have := HK4.out; first | omega | exact Nat.le_refl _⟩, ⟨by (with_reducible repeat (first | apply Kd.R_alloc | apply Kd.R_drewN | apply Kd.R_drew)); exact HO_4.out⟩, ⟨by repeat (first | (with_reducible first | exact HB.out | apply below_alloc | apply pw_below_drewN | apply below_drew1) | exact HB.out)⟩⟩
                              · rw [if_neg c28] at H
                                have c28b0 : decide (1099511627776 < x10_4) = false := decide_eq_false c28
                                clear c28
                                have H' := Aside0.mk H
                                clear H
                                have p25 : 0 ≤ (0 : Int) := (by omega)
                                have q25 : 0 < x5_4.size := (by have : (0 : Int) < (x5_4.size : Int) := of_decide_eq_true (by first | (with_reducible assumption) | assumption); omega)
                                have hx25 : ∀ h : 0 < x5_4.size, ((x5_4[0]'h).toNat : Int) = bt x5_4 0 := bt_at x5_4 0
                                clear p25
                                have qi25 : (0 < (x5_4.size : Int)) = True := eq_true (of_decide_eq_true (by first | (with_reducible assumption) | assumption))
                                replace q25 := eq_true q25
                                go_wp2_with (first | (go_at_call 74; (with_reducible refine (impl_digitOf.calls k4 (bt x5_4 0) t263 _ A26.out).mono ?_); rintro e w' ⟨rfl, ⟨nd, rfl⟩⟩))
                                go_meet
                                case rel => exact ⟨_, (decide (x13_4 > 1099511627776)), (by first | rfl | (simp; done) | (simp [*]; done)), H', ⟨by have := HJ3.out; have := HK2.out; have := HJ17.out; have := HK4.out; first | omega | exact Nat.le_refl _⟩, ⟨by (with_reducible repeat (first | apply Kd.R_alloc | apply Kd.R_drewN | apply Kd.R_drew)); exact HO_4.out⟩, ⟨by repeat (first | (with_reducible first | exact HB.out | apply below_alloc | apply pw_below_drewN | apply below_drew1) | exact HB.out)⟩⟩
                          · rw [if_neg c24] at H
                            exact absurd H (by simp)
                      case rest =>
                        clear HC22
                        try clear c1
                        try clear p1
                        try clear q1
                        try clear hx1
                        try clear c2
                        try clear c2b0
                        try clear c2b1
                        try clear p2
                        try clear q2
                        try clear hx2
                        try clear qi2
                        try clear p6
                        try clear c7
                        try clear c7b0
                        try clear c9
                        try clear c9b0
                        try clear c9b1
                        try clear c10
                        try clear c10b0
                        try clear c10b1
                        try clear c11
                        try clear c11b0
                        try clear c12
                        try clear c12b0
                        try clear c13
                        try clear c13b0
                        try clear p14
                        try clear q14
                        try clear hx14
                        try clear c15
                        try clear c19
                        try clear c19b0
                        try clear c19b1
                        try clear c21
                        try clear c23
                        try clear c23b0
                        try clear c23b1
                        try clear c24
                        try clear c24b0
                        try clear c24b1
                        try clear p25
                        try clear q25
                        try clear hx25
                        try clear qi25
                        try clear c27
                        try clear c27b0
                        try clear c28
                        try clear c28b0
                        try clear p1
                        try clear p14
                        try clear p2
                        try clear p25
                        try clear p6
                        try clear q1
                        try clear q14
                        try clear q25
                        obtain ⟨kq, x69_21, rfl, HA, HJ21, HO_4, HB⟩ := hcut
                        cases kq with
                        | zero => exact absurd HA.out (by simp [impl_ReadPuny.j5])
                        | succ kj21 =>
                          have H := HA.out
                          clear HA
                          simp only [impl_ReadPuny.j5] at H
                          by_cases c29 : x69_21 = true
                          · subst c29
                            have H1 : (some (([] : List Int), false)) = some (r1, r2) := by rw [if_pos rfl] at H; exact H
                            clear H
                            have H := H1
                            clear H1
                            simp only [Option.some.injEq, Prod.mk.injEq] at H
                            obtain ⟨rfl, rfl⟩ := H
                            go_wp2
                            go_ret2
                            exact ⟨_, by first | rfl | (simp [errW_none, errW_some] <;> rfl) | (simp [*, errW_none, errW_some] <;> rfl), by first | exact Kd.R_nil _ _ _ _ _ | exact Kd.N_nil _ _ _ _ _ | exact Kd.V_nil _ _ _ _ _ | exact Kd.Q_nil _ _ _ _ _ | exact Kd.S_nil _ _ _ _ _, by repeat (first | (with_reducible first | exact HB.out | apply below_alloc | apply pw_below_drewN | apply below_drew1) | exact HB.out)⟩
                          · replace c29 := Bool.eq_false_iff.mpr c29
                            subst c29
                            have H1 : (if 0 < (x5_4.size : Int) then ((impl_digitOf.f kj21 (bt x5_4 0)).bind fun t264 => ((impl_threshold.f x14_4 x11_2).bind fun t265 => (if 1 ≤ (x5_4.size : Int) then (if t264 < t265 then ((impl_adapted.f kj21 (wrap64 ((wrap64 (x10_4 + (wrap64 (t264 * x13_4)))) - x10_2)) (wrap64 ((x4_2.length : Int) + 1)) ((x4_2.length : Int) == (x4_3.length : Int))).bind fun t266 => (if (wrap64 ((x4_2.length : Int) + 1)) = 0 then (none) else ((Hand.slices_Insert_int.f x4_2 (Int.tmod (wrap64 (x10_4 + (wrap64 (t264 * x13_4)))) (wrap64 ((x4_2.length : Int) + 1))) (([wrap64 (x9_2 + (wrap64 (Int.tdiv (wrap64 (x10_4 + (wrap64 (t264 * x13_4)))) (wrap64 ((x4_2.length : Int) + 1)))))] : List Int))).bind fun t270 => (impl_ReadPuny.l1 kj21 a0 t270 (x5_4.extract 1 x5_4.size) (x4_3.length : Int) (wrap64 (x9_2 + (wrap64 (Int.tdiv (wrap64 (x10_4 + (wrap64 (t264 * x13_4)))) (wrap64 ((x4_2.length : Int) + 1)))))) (wrap64 ((Int.tmod (wrap64 (x10_4 + (wrap64 (t264 * x13_4)))) (wrap64 ((x4_2.length : Int) + 1))) + 1)) t266)))) else (impl_ReadPuny.l2 kj21 a0 x4_2 (x5_4.extract 1 x5_4.size) (x4_3.length : Int) x9_2 (wrap64 (x10_4 + (wrap64 (t264 * x13_4)))) x11_2 x10_2 (wrap64 (x13_4 * (wrap64 (36 - t265)))) (wrap64 (x14_4 + 36)))) else (none)))) else (none)) = some (r1, r2) := by rw [if_neg (show ¬ (false = true) by decide)] at H; exact H
                            clear H
                            have H := H1
                            clear H1
                            by_cases c30 : 0 < (x5_4.size : Int)
                            · rw [if_pos c30] at H
                              have c30b0 : decide (0 < (x5_4.size : Int)) = true := decide_eq_true c30
                              have c30b1 : decide (0 < x5_4.size) = true := decide_eq_true (by omega)
                              clear c30
                              replace H := Option.bind_eq_some_iff.mp H
                              obtain ⟨t264, A320, H⟩ := H
                              replace H : ((impl_threshold.f x14_4 x11_2).bind fun t265 => (if 1 ≤ (x5_4.size : Int) then (if t264 < t265 then ((impl_adapted.f kj21 (wrap64 ((wrap64 (x10_4 + (wrap64 (t264 * x13_4)))) - x10_2)) (wrap64 ((x4_2.length : Int) + 1)) ((x4_2.length : Int) == (x4_3.length : Int))).bind fun t266 => (if (wrap64 ((x4_2.length : Int) + 1)) = 0 then (none) else ((Hand.slices_Insert_int.f x4_2 (Int.tmod (wrap64 (x10_4 + (wrap64 (t264 * x13_4)))) (wrap64 ((x4_2.length : Int) + 1))) (([wrap64 (x9_2 + (wrap64 (Int.tdiv (wrap64 (x10_4 + (wrap64 (t264 * x13_4)))) (wrap64 ((x4_2.length : Int) + 1)))))] : List Int))).bind fun t270 => (impl_ReadPuny.l1 kj21 a0 t270 (x5_4.extract 1 x5_4.size) (x4_3.length : Int) (wrap64 (x9_2 + (wrap64 (Int.tdiv (wrap64 (x10_4 + (wrap64 (t264 * x13_4)))) (wrap64 ((x4_2.length : Int) + 1)))))) (wrap64 ((Int.tmod (wrap64 (x10_4 + (wrap64 (t264 * x13_4)))) (wrap64 ((x4_2.length : Int) + 1))) + 1)) t266)))) else (impl_ReadPuny.l2 kj21 a0 x4_2 (x5_4.extract 1 x5_4.size) (x4_3.length : Int) x9_2 (wrap64 (x10_4 + (wrap64 (t264 * x13_4)))) x11_2 x10_2 (wrap64 (x13_4 * (wrap64 (36 - t265)))) (wrap64 (x14_4 + 36)))) else (none))) = some (r1, r2) := H
                              have A32 := Aside0.mk A320
                              clear A320
                              replace H := Option.bind_eq_some_iff.mp H
                              obtain ⟨t265, A330, H⟩ := H
                              replace H : (if 1 ≤ (x5_4.size : Int) then (if t264 < t265 then ((impl_adapted.f kj21 (wrap64 ((wrap64 (x10_4 + (wrap64 (t264 * x13_4)))) - x10_2)) (wrap64 ((x4_2.length : Int) + 1)) ((x4_2.length : Int) == (x4_3.length : Int))).bind fun t266 => (if (wrap64 ((x4_2.length : Int) + 1)) = 0 then (none) else ((Hand.slices_Insert_int.f x4_2 (Int.tmod (wrap64 (x10_4 + (wrap64 (t264 * x13_4)))) (wrap64 ((x4_2.length : Int) + 1))) (([wrap64 (x9_2 + (wrap64 (Int.tdiv (wrap64 (x10_4 + (wrap64 (t264 * x13_4)))) (wrap64 ((x4_2.length : Int) + 1)))))] : List Int))).bind fun t270 => (impl_ReadPuny.l1 kj21 a0 t270 (x5_4.extract 1 x5_4.size) (x4_3.length : Int) (wrap64 (x9_2 + (wrap64 (Int.tdiv (wrap64 (x10_4 + (wrap64 (t264 * x13_4)))) (wrap64 ((x4_2.length : Int) + 1)))))) (wrap64 ((Int.tmod (wrap64 (x10_4 + (wrap64 (t264 * x13_4)))) (wrap64 ((x4_2.length : Int) + 1))) + 1)) t266)))) else (impl_ReadPuny.l2 kj21 a0 x4_2 (x5_4.extract 1 x5_4.size) (x4_3.length : Int) x9_2 (wrap64 (x10_4 + (wrap64 (t264 * x13_4)))) x11_2 x10_2 (wrap64 (x13_4 * (wrap64 (36 - t265)))) (wrap64 (x14_4 + 36)))) else (none)) = some (r1, r2) := H
                              have A33 := Aside0.mk A330
                              clear A330
                              by_cases c34 : 1 ≤ (x5_4.size : Int)
                              · rw [if_pos c34] at H
                                have c34b0 := eq_true c34
                                have c34b1 : decide (1 ≤ (x5_4.size : Int)) = true := decide_eq_true c34
                                clear c34
                                by_cases c35 : t264 < t265
                                · rw [if_pos c35] at H
                                  have c35b0 : decide (t264 < t265) = true := decide_eq_true c35
                                  clear c35
                                  replace H := Option.bind_eq_some_iff.mp H
                                  obtain ⟨t266, A360, H⟩ := H
                                  replace H : (if (wrap64 ((x4_2.length : Int) + 1)) = 0 then (none) else ((Hand.slices_Insert_int.f x4_2 (Int.tmod (wrap64 (x10_4 + (wrap64 (t264 * x13_4)))) (wrap64 ((x4_2.length : Int) + 1))) (([wrap64 (x9_2 + (wrap64 (Int.tdiv (wrap64 (x10_4 + (wrap64 (t264 * x13_4)))) (wrap64 ((x4_2.length : Int) + 1)))))] : List Int))).bind fun t270 => (impl_ReadPuny.l1 kj21 a0 t270 (x5_4.extract 1 x5_4.size) (x4_3.length : Int) (wrap64 (x9_2 + (wrap64 (Int.tdiv (wrap64 (x10_4 + (wrap64 (t264 * x13_4)))) (wrap64 ((x4_2.length : Int) + 1)))))) (wrap64 ((Int.tmod (wrap64 (x10_4 + (wrap64 (t264 * x13_4)))) (wrap64 ((x4_2.length : Int) + 1))) + 1)) t266))) = some (r1, r2) := H
                                  have A36 := Aside0.mk A360
                                  clear A360
                                  by_cases c37 : (wrap64 ((x4_2.length : Int) + 1)) = 0
                                  · rw [if_pos c37] at H
                                    exact absurd H (by simp)
                                  · rw [if_neg c37] at H
                                    have c37b0 : ((wrap64 ((x4_2.length : Int) + 1)) == 0) = false := beq_eq_false_iff_ne.mpr c37
                                    have c37b1 : ((wrap64 ((x4_2.length : Int) + 1)) != 0) = true := bne_iff_ne.mpr c37
                                    obtain ⟨y267, hy267⟩ : ∃ y_ : List Int, y_ = (([wrap64 (x9_2 + (wrap64 (Int.tdiv (wrap64 (x10_4 + (wrap64 (t264 * x13_4)))) (wrap64 ((x4_2.length : Int) + 1)))))] : List Int)) := ⟨_, rfl⟩
                                    replace H : ((Hand.slices_Insert_int.f x4_2 (Int.tmod (wrap64 (x10_4 + (wrap64 (t264 * x13_4)))) (wrap64 ((x4_2.length : Int) + 1))) y267).bind fun t270 => (impl_ReadPuny.l1 kj21 a0 t270 (x5_4.extract 1 x5_4.size) (x4_3.length : Int) (wrap64 (x9_2 + (wrap64 (Int.tdiv (wrap64 (x10_4 + (wrap64 (t264 * x13_4)))) (wrap64 ((x4_2.length : Int) + 1)))))) (wrap64 ((Int.tmod (wrap64 (x10_4 + (wrap64 (t264 * x13_4)))) (wrap64 ((x4_2.length : Int) + 1))) + 1)) t266)) = some (r1, r2) := by first | (rw [hy267]; with_reducible exact H) | (have H2_ := (Option.bind_some _ _).symm.trans H; rw [hy267]; with_reducible exact H2_) | (have H2_ := (Option.bind_some _ _).symm.trans H; with_reducible exact H2_) | with_reducible exact H | (rw [hy267]; exact H) | exact H
                                    have Ny267 := Aside0.mk hy267
                                    clear hy267
                                    replace H := Option.bind_eq_some_iff.mp H
                                    obtain ⟨t270, A380, H⟩ := H
                                    replace H : (impl_ReadPuny.l1 kj21 a0 t270 (x5_4.extract 1 x5_4.size) (x4_3.length : Int) (wrap64 (x9_2 + (wrap64 (Int.tdiv (wrap64 (x10_4 + (wrap64 (t264 * x13_4)))) (wrap64 ((x4_2.length : Int) + 1)))))) (wrap64 ((Int.tmod (wrap64 (x10_4 + (wrap64 (t264 * x13_4)))) (wrap64 ((x4_2.length : Int) + 1))) + 1)) t266) = some (r1, r2) := H
                                    have A38 := Aside0.mk A380
                                    clear A380
                                    have H' := Aside0.mk H
                                    clear H
                                    have p31 : 0 ≤ (0 : Int) := (by omega)
                                    have q31 : 0 < x5_4.size := (by have : (0 : Int) < (x5_4.size : Int) := of_decide_eq_true (by first | (with_reducible assumption) | assumption); omega)
                                    have hx31 : ∀ h : 0 < x5_4.size, ((x5_4[0]'h).toNat : Int) = bt x5_4 0 := bt_at x5_4 0
                                    clear p31
                                    have qi31 : (0 < (x5_4.size : Int)) = True := eq_true (of_decide_eq_true (by first | (with_reducible assumption) | assumption))
                                    replace q31 := eq_true q31
                                    go_wp2_with (first | ((with_reducible refine gate_callee (f := 74) rfl ?_); refine goesL_ (some 72) rfl rfl Try.func74 (by kernel_rfl) rfl #[.int .u8 (bt x5_4 0)] rfl (by (try simp only [List.map_toArray, List.map_cons, List.map_nil]); first | done | rfl | (simp only [List.length_drop, List.length_take]; rfl)) ?_; (with_reducible refine (impl_digitOf.calls kj21 (bt x5_4 0) t264 _ A32.out).mono ?_); rintro e w' ⟨rfl, ⟨nd, rfl⟩⟩; refine ⟨_, rfl, ?_⟩) | ((with_reducible refine gate_callee (f := 75) rfl ?_); refine goesL_ (some 75) rfl rfl Try.func75 (by kernel_rfl) rfl #[.int .i64 x14_4, .int .i64 x11_2] rfl (by (try simp only [List.map_toArray, List.map_cons, List.map_nil]); first | done | rfl | (simp only [List.length_drop, List.length_take]; rfl)) ?_; (with_reducible refine (impl_threshold.calls x14_4 x11_2 t265 _ A33.out).mono ?_); rintro e w39 ⟨rfl, hb⟩; refine ⟨_, rfl, ?_⟩; have n0_ := Aside0.mk (Kd.R_below (by (with_reducible repeat (first | apply Kd.R_alloc | apply Kd.R_drewN | apply Kd.R_drew)); exact HO_4.out) hb); have n1_ := Aside0.mk (below_step (by repeat (first | (with_reducible first | exact HB.out | apply below_alloc | apply pw_below_drewN | apply below_drew1) | exact HB.out)) hb); clear HO_4; clear HB; have HO_4 := n0_; have HB := n1_; clear n0_ n1_; (try clear hb); (try clear hb2); (try clear hk); (try clear hi); obtain ⟨Ao40, co40, eo40⟩ := Kd.R_slice HO_4.out; subst eo40) | ((with_reducible refine gate_callee (f := 76) rfl ?_); refine goesL_ (some 100) rfl rfl Try.func76 (by kernel_rfl) rfl #[.int .i64 (wrap64 ((wrap64 (x10_4 + (wrap64 (t264 * x13_4)))) - x10_2)), .int .i64 (wrap64 ((x4_2.length : Int) + 1)), .bool ((x4_2.length : Int) == (x4_3.length : Int))] rfl (by (try simp only [List.map_toArray, List.map_cons, List.map_nil]); first | done | rfl | (simp only [List.length_drop, List.length_take]; rfl)) ?_; (with_reducible refine (impl_adapted.calls kj21 (wrap64 ((wrap64 (x10_4 + (wrap64 (t264 * x13_4)))) - x10_2)) (wrap64 ((x4_2.length : Int) + 1)) ((x4_2.length : Int) == (x4_3.length : Int)) t266 _ A36.out).mono ?_); rintro e w' ⟨rfl, ⟨nd, rfl⟩⟩; refine ⟨_, rfl, ?_⟩) | ((with_reducible refine gate_dst (N := 116) rfl ?_); (try (refine gate_guard (by rfl) ?_; dsimp only)); refine Kd.R_lit (Kd.int .i64) _ 3 ?hg (N := 116) ?hd (xs := ([wrap64 (x9_2 + (wrap64 (Int.tdiv (wrap64 (x10_4 + (wrap64 (t264 * x13_4)))) (wrap64 ((x4_2.length : Int) + 1)))))] : List Int)) (inner := [.int .i64 (wrap64 (x9_2 + (wrap64 (Int.tdiv (wrap64 (x10_4 + (wrap64 (t264 * x13_4)))) (wrap64 ((x4_2.length : Int) + 1))))))]) (ok := fun _ => True) (okp := fun _ => True) ?hr ?hp (fun _ hk => hk) trivial (Below.refl _ _) (Nat.le_refl _) (by simp) ?_; (case hd => rfl); (case hg => rfl); (case hr => first | (go_simp; done) | (go_simp; rfl)); (case hp => exact (Reps.one (show Kd.M (Kd.int .i64) _ _ _ (wrap64 (x9_2 + (wrap64 (Int.tdiv (wrap64 (x10_4 + (wrap64 (t264 * x13_4)))) (wrap64 ((x4_2.length : Int) + 1)))))) [.int .i64 (wrap64 (x9_2 + (wrap64 (Int.tdiv (wrap64 (x10_4 + (wrap64 (t264 * x13_4)))) (wrap64 ((x4_2.length : Int) + 1))))))] from rfl) (Reps.none _ _))); intro v268 w41 ho42 hb hg_ hnew_; clear hg_ hnew_; (first | rw [← Ny267.out] at ho42 | (simp only [Int.reduceToNat] at ho42; rw [← Ny267.out] at ho42)); have n0_ := Aside0.mk (Kd.R_elder' (by (with_reducible repeat (first | apply Kd.R_alloc | apply Kd.R_drewN | apply Kd.R_drew)); exact HO_4.out) (Kd.R_base ho42) hb); have n1_ := Aside0.mk (Kd.R_lower (Kd.R_new' ho42 (Kd.R_lt (by (with_reducible repeat (first | apply Kd.R_alloc | apply Kd.R_drewN | apply Kd.R_drew)); exact HO_4.out))) (below_size (by repeat (first | (with_reducible first | exact HB.out | apply below_alloc | apply pw_below_drewN | apply below_drew1) | exact HB.out)))); have n2_ := Aside0.mk (below_step (by repeat (first | (with_reducible first | exact HB.out | apply below_alloc | apply pw_below_drewN | apply below_drew1) | exact HB.out)) hb); clear HO_4; clear HB; have HO_4 := n0_; have HO269 := n1_; have HB := n2_; clear n0_ n1_ n2_; clear hb ho42; obtain ⟨Ao43, co43, eo43⟩ := Kd.R_slice HO269.out; subst eo43) | ((with_reducible refine gate_callee (f := 77) rfl ?_); refine goesL_ (some 117) rfl rfl Try.func77 (by kernel_rfl) rfl #[.slice Ao40 x4_2.length co40, .int .i64 (Int.tmod (wrap64 (x10_4 + (wrap64 (t264 * x13_4)))) (wrap64 ((x4_2.length : Int) + 1))), .slice Ao43 y267.length co43] rfl (by (try simp only [List.map_toArray, List.map_cons, List.map_nil]); first | done | rfl | (simp only [List.length_drop, List.length_take]; rfl)) ?_; (with_reducible refine (Hand.slices_Insert_int.calls (fun k_ => some k_ = (.slice Ao40 x4_2.length co40 : Value).ownBlock) (.slice Ao40 x4_2.length co40) x4_2 (Int.tmod (wrap64 (x10_4 + (wrap64 (t264 * x13_4)))) (wrap64 ((x4_2.length : Int) + 1))) (fun k_ => some k_ = (.slice Ao43 y267.length co43 : Value).ownBlock) (.slice Ao43 y267.length co43) y267 t270 w _ ?side1 ?side2 ?side3 ?side4 ?side5 A38.out).mono ?_); (case side1 => repeat (first | (with_reducible first | exact HB.out | apply below_alloc | apply pw_below_drewN | apply below_drew1) | exact HB.out)); (case side2 => exact Kd.R_tight rfl HO_4.out); (case side3 => exact fun k_ e_ => (HO_4.out.1 k_ e_.symm).2); (case side4 => exact Kd.R_tight rfl HO269.out); (case side5 => exact fun k_ e_ => (HO269.out.1 k_ e_.symm).2); rintro e w44 ⟨v271, rfl, ho0, hb, hkp⟩; refine ⟨_, rfl, ?_⟩; have n0_ := Aside0.mk (Kd.R_mono (ok' := fun k_ => True) ho0 (fun k_ hk_ => trivial)); have n1_ := Aside0.mk (hb); clear HB; clear HO269; clear HO_4; have HO272 := n0_; have HB := n1_; clear n0_ n1_; (try clear hb); (try clear hkp); (try clear ho0)))
                                    go_roundg kj21
                                    case measure => have := HJ3.out; have := HK2.out; have := HJ17.out; have := HK4.out; have := HJ21.out; omega
                                    case rel => exact ⟨(t270), (x5_4.extract 1 x5_4.size), (wrap64 (x9_2 + (wrap64 (Int.tdiv (wrap64 (x10_4 + (wrap64 (t264 * x13_4)))) (wrap64 ((x4_2.length : Int) + 1)))))), (wrap64 ((Int.tmod (wrap64 (x10_4 + (wrap64 (t264 * x13_4)))) (wrap64 ((x4_2.length : Int) + 1))) + 1)), (t266), (by first | rfl | (simp; done) | (simp [*]; done)), (by first | rfl | (simp; done) | (simp [*]; done)), (by first | rfl | (simp; done) | (simp [*]; done)), (by first | rfl | (simp; done) | (simp [*]; done)), H', ⟨by have := HJ3.out; have := HK2.out; have := HJ17.out; have := HK4.out; have := HJ21.out; omega⟩, ⟨by (with_reducible repeat (first | apply Kd.R_alloc | apply Kd.R_drewN | apply Kd.R_drew)); exact HO272.out⟩, ⟨by repeat (first | (with_reducible first | exact HB.out | apply below_alloc | apply pw_below_drewN | apply below_drew1) | exact HB.out)⟩⟩
                                · rw [if_neg c35] at H
                                  have c35b0 : decide (t264 < t265) = false := decide_eq_false c35
                                  clear c35
                                  have H' := Aside0.mk H
                                  clear H
                                  have p31 : 0 ≤ (0 : Int) := (by omega)
                                  have q31 : 0 < x5_4.size := (by have : (0 : Int) < (x5_4.size : Int) := of_decide_eq_true (by first | (with_reducible assumption) | assumption); omega)
                                  have hx31 : ∀ h : 0 < x5_4.size, ((x5_4[0]'h).toNat : Int) = bt x5_4 0 := bt_at x5_4 0
                                  clear p31
                                  have qi31 : (0 < (x5_4.size : Int)) = True := eq_true (of_decide_eq_true (by first | (with_reducible assumption) | assumption))
                                  replace q31 := eq_true q31
                                  go_wp2_with (first | ((with_reducible refine gate_callee (f := 74) rfl ?_); refine goesL_ (some 72) rfl rfl Try.func74 (by kernel_rfl) rfl #[.int .u8 (bt x5_4 0)] rfl (by (try simp only [List.map_toArray, List.map_cons, List.map_nil]); first | done | rfl | (simp only [List.length_drop, List.length_take]; rfl)) ?_; (with_reducible refine (impl_digitOf.calls kj21 (bt x5_4 0) t264 _ A32.out).mono ?_); rintro e w' ⟨rfl, ⟨nd, rfl⟩⟩; refine ⟨_, rfl, ?_⟩) | ((with_reducible refine gate_callee (f := 75) rfl ?_); refine goesL_ (some 75) rfl rfl Try.func75 (by kernel_rfl) rfl #[.int .i64 x14_4, .int .i64 x11_2] rfl (by (try simp only [List.map_toArray, List.map_cons, List.map_nil]); first | done | rfl | (simp only [List.length_drop, List.length_take]; rfl)) ?_; (with_reducible refine (impl_threshold.calls x14_4 x11_2 t265 _ A33.out).mono ?_); rintro e w45 ⟨rfl, hb⟩; refine ⟨_, rfl, ?_⟩; have n0_ := Aside0.mk (Kd.R_below (by (with_reducible repeat (first | apply Kd.R_alloc | apply Kd.R_drewN | apply Kd.R_drew)); exact HO_4.out) hb); have n1_ := Aside0.mk (below_step (by repeat (first | (with_reducible first | exact HB.out | apply below_alloc | apply pw_below_drewN | apply below_drew1) | exact HB.out)) hb); clear HO_4; clear HB; have HO_4 := n0_; have HB := n1_; clear n0_ n1_; (try clear hb); (try clear hb2); (try clear hk); (try clear hi)))
                                  go_roundg kj21
                                  case measure => have := HJ3.out; have := HK2.out; have := HJ17.out; have := HK4.out; have := HJ21.out; omega
                                  case rel => exact ⟨(x5_4.extract 1 x5_4.size), (wrap64 (x10_4 + (wrap64 (t264 * x13_4)))), (wrap64 (x13_4 * (wrap64 (36 - t265)))), (wrap64 (x14_4 + 36)), (by first | rfl | (simp; done) | (simp [*]; done)), (by first | rfl | (simp; done) | (simp [*]; done)), (by first | rfl | (simp; done) | (simp [*]; done)), (by first | rfl | (simp; done) | (simp [*]; done)), H', ⟨by have := HJ3.out; have := HK2.out; have := HJ17.out; have := HK4.out; have := HJ21.out; omega⟩, ⟨by (with_reducible repeat (first | apply Kd.R_alloc | apply Kd.R_drewN | apply Kd.R_drew)); exact HO_4.out⟩, ⟨by repeat (first | (with_reducible first | exact HB.out | apply below_alloc | apply pw_below_drewN | apply below_drew1) | exact HB.out)⟩⟩
                              · rw [if_neg c34] at H
                                exact absurd H (by simp)
                            · rw [if_neg c30] at H
                              exact absurd H (by simp)
                · replace c21 := Bool.eq_false_iff.mpr c21
                  subst c21
                  have H1 : ((impl_isWord.f kj17 x4_2).bind fun t273 => (if t273 = true then ((impl_puny.f kj17 x4_2).bind fun t274 => (if t274.toList = a0.toList then (some (x4_2, true)) else (some (([] : List Int), false)))) else (some (([] : List Int), false)))) = some (r1, r2) := by rw [if_neg (show ¬ (false = true) by decide)] at H; exact H
                  clear H
                  have H := H1
                  clear H1
                  replace H := Option.bind_eq_some_iff.mp H
                  obtain ⟨t273, A460, H⟩ := H
                  replace H : (if t273 = true then ((impl_puny.f kj17 x4_2).bind fun t274 => (if t274.toList = a0.toList then (some (x4_2, true)) else (some (([] : List Int), false)))) else (some (([] : List Int), false))) = some (r1, r2) := H
                  have A46 := Aside0.mk A460
                  clear A460
                  by_cases c47 : t273 = true
                  · subst c47
                    have H1 : ((impl_puny.f kj17 x4_2).bind fun t274 => (if t274.toList = a0.toList then (some (x4_2, true)) else (some (([] : List Int), false)))) = some (r1, r2) := by rw [if_pos rfl] at H; exact H
                    clear H
                    have H := H1
                    clear H1
                    replace H := Option.bind_eq_some_iff.mp H
                    obtain ⟨t274, A480, H⟩ := H
                    replace H : (if t274.toList = a0.toList then (some (x4_2, true)) else (some (([] : List Int), false))) = some (r1, r2) := H
                    have A48 := Aside0.mk A480
                    clear A480
                    by_cases c49 : t274.toList = a0.toList
                    · rw [if_pos c49] at H
                      have c49b0 : (t274.toList == a0.toList) = true := beq_iff_eq.mpr c49
                      have c49b1 : (t274.toList != a0.toList) = false := bne_eq_false_iff_eq.mpr c49
                      clear c49
                      simp only [Option.some.injEq, Prod.mk.injEq] at H
                      obtain ⟨rfl, rfl⟩ := H
                      obtain ⟨Ao50, co50, eo50⟩ := Kd.R_slice HO_4.out
                      subst eo50
                      go_wp2_with (first | ((with_reducible refine gate_callee (f := 66) rfl ?_); refine goesL_ (some 121) rfl rfl Try.func66 (by kernel_rfl) rfl #[.slice Ao50 x4_2.length co50] rfl (by (try simp only [List.map_toArray, List.map_cons, List.map_nil]); first | done | rfl | (simp only [List.length_drop, List.length_take]; rfl)) ?_; (with_reducible refine (impl_isWord.calls kj17 _ _ x4_2 true _ ?side1 ?side2 A46.out).mono ?_); (case side1 => repeat (first | exact (Kd.R_reads' HO_4.out).2.2 | (with_reducible refine Kd.C_alloc ?_ _) | (with_reducible refine Kd.C_drewN ?_ _) | (with_reducible refine Kd.C_drew ?_))); (case side2 => exact (Kd.R_reads' HO_4.out).2.1); rintro e w' ⟨rfl, ⟨nd, rfl⟩⟩; refine ⟨_, rfl, ?_⟩) | (go_at_call 67; (with_reducible refine (impl_puny.calls kj17 _ _ x4_2 t274 _ ?side1 ?side2 A48.out).mono ?_); (case side1 => repeat (first | exact (Kd.R_reads' HO_4.out).2.2 | (with_reducible refine Kd.C_alloc ?_ _) | (with_reducible refine Kd.C_drewN ?_ _) | (with_reducible refine Kd.C_drew ?_))); (case side2 => exact (Kd.R_reads' HO_4.out).2.1); rintro e w51 ⟨rfl, hb⟩; have n0_ := Aside0.mk (Kd.R_below (by (with_reducible repeat (first | apply Kd.R_alloc | apply Kd.R_drewN | apply Kd.R_drew)); exact HO_4.out) hb); have n1_ := Aside0.mk (below_step (by repeat (first | (with_reducible first | exact HB.out | apply below_alloc | apply pw_below_drewN | apply below_drew1) | exact HB.out)) hb); clear HO_4; clear HB; have HO_4 := n0_; have HB := n1_; clear n0_ n1_; (try clear hb); (try clear hb2); (try clear hk); (try clear hi)))
                      go_ret2
                      exact ⟨_, by first | rfl | (simp [errW_none, errW_some] <;> rfl) | (simp [*, errW_none, errW_some] <;> rfl), by (with_reducible repeat (first | apply Kd.R_alloc | apply Kd.R_drewN | apply Kd.R_drew)); exact HO_4.out, by repeat (first | (with_reducible first | exact HB.out | apply below_alloc | apply pw_below_drewN | apply below_drew1) | exact HB.out)⟩
                    · rw [if_neg c49] at H
                      have c49b0 : (t274.toList == a0.toList) = false := beq_eq_false_iff_ne.mpr c49
                      have c49b1 : (t274.toList != a0.toList) = true := bne_iff_ne.mpr c49
                      simp only [Option.some.injEq, Prod.mk.injEq] at H
                      obtain ⟨rfl, rfl⟩ := H
                      obtain ⟨Ao52, co52, eo52⟩ := Kd.R_slice HO_4.out
                      subst eo52
                      go_wp2_with (first | ((with_reducible refine gate_callee (f := 66) rfl ?_); refine goesL_ (some 121) rfl rfl Try.func66 (by kernel_rfl) rfl #[.slice Ao52 x4_2.length co52] rfl (by (try simp only [List.map_toArray, List.map_cons, List.map_nil]); first | done | rfl | (simp only [List.length_drop, List.length_take]; rfl)) ?_; (with_reducible refine (impl_isWord.calls kj17 _ _ x4_2 true _ ?side1 ?side2 A46.out).mono ?_); (case side1 => repeat (first | exact (Kd.R_reads' HO_4.out).2.2 | (with_reducible refine Kd.C_alloc ?_ _) | (with_reducible refine Kd.C_drewN ?_ _) | (with_reducible refine Kd.C_drew ?_))); (case side2 => exact (Kd.R_reads' HO_4.out).2.1); rintro e w' ⟨rfl, ⟨nd, rfl⟩⟩; refine ⟨_, rfl, ?_⟩) | (go_at_call 67; (with_reducible refine (impl_puny.calls kj17 _ _ x4_2 t274 _ ?side1 ?side2 A48.out).mono ?_); (case side1 => repeat (first | exact (Kd.R_reads' HO_4.out).2.2 | (with_reducible refine Kd.C_alloc ?_ _) | (with_reducible refine Kd.C_drewN ?_ _) | (with_reducible refine Kd.C_drew ?_))); (case side2 => exact (Kd.R_reads' HO_4.out).2.1); rintro e w53 ⟨rfl, hb⟩; have n0_ := Aside0.mk (Kd.R_below (by (with_reducible repeat (first | apply Kd.R_alloc | apply Kd.R_drewN | apply Kd.R_drew)); exact HO_4.out) hb); have n1_ := Aside0.mk (below_step (by repeat (first | (with_reducible first | exact HB.out | apply below_alloc | apply pw_below_drewN | apply below_drew1) | exact HB.out)) hb); clear HO_4; clear HB; have HO_4 := n0_; have HB := n1_; clear n0_ n1_; (try clear hb); (try clear hb2); (try clear hk); (try clear hi)))
                      go_ret2
                      exact ⟨_, by first | rfl | (simp [errW_none, errW_some] <;> rfl) | (simp [*, errW_none, errW_some] <;> rfl), by first | exact Kd.R_nil _ _ _ _ _ | exact Kd.N_nil _ _ _ _ _ | exact Kd.V_nil _ _ _ _ _ | exact Kd.Q_nil _ _ _ _ _ | exact Kd.S_nil _ _ _ _ _, by repeat (first | (with_reducible first | exact HB.out | apply below_alloc | apply pw_below_drewN | apply below_drew1) | exact HB.out)⟩
                  · replace c47 := Bool.eq_false_iff.mpr c47
                    subst c47
                    have H1 : (some (([] : List Int), false)) = some (r1, r2) := by rw [if_neg (show ¬ (false = true) by decide)] at H; exact H
                    clear H
                    have H := H1
                    clear H1
                    simp only [Option.some.injEq, Prod.mk.injEq] at H
                    obtain ⟨rfl, rfl⟩ := H
                    obtain ⟨Ao54, co54, eo54⟩ := Kd.R_slice HO_4.out
                    subst eo54
                    go_wp2_with (first | ((with_reducible refine gate_callee (f := 66) rfl ?_); refine goesL_ (some 121) rfl rfl Try.func66 (by kernel_rfl) rfl #[.slice Ao54 x4_2.length co54] rfl (by (try simp only [List.map_toArray, List.map_cons, List.map_nil]); first | done | rfl | (simp only [List.length_drop, List.length_take]; rfl)) ?_; (with_reducible refine (impl_isWord.calls kj17 _ _ x4_2 false _ ?side1 ?side2 A46.out).mono ?_); (case side1 => repeat (first | exact (Kd.R_reads' HO_4.out).2.2 | (with_reducible refine Kd.C_alloc ?_ _) | (with_reducible refine Kd.C_drewN ?_ _) | (with_reducible refine Kd.C_drew ?_))); (case side2 => exact (Kd.R_reads' HO_4.out).2.1); rintro e w' ⟨rfl, ⟨nd, rfl⟩⟩; refine ⟨_, rfl, ?_⟩))
                    go_ret2
                    exact ⟨_, by first | rfl | (simp [errW_none, errW_some] <;> rfl) | (simp [*, errW_none, errW_some] <;> rfl), by first | exact Kd.R_nil _ _ _ _ _ | exact Kd.N_nil _ _ _ _ _ | exact Kd.V_nil _ _ _ _ _ | exact Kd.Q_nil _ _ _ _ _ | exact Kd.S_nil _ _ _ _ _, by repeat (first | (with_reducible first | exact HB.out | apply below_alloc | apply pw_below_drewN | apply below_drew1) | exact HB.out)⟩

end Go.Proofs.Ythhomopijhopfaa.GFnPuny
