-- This text was written by wip/gen.py, a program of this session; Lean checks it.
import Derived.Test.YthhomopijhopfaaGFnExactReadPunyx0
import Derived.Test.YthhomopijhopfaaGFnExactReadPunyx5
import Derived.Test.YthhomopijhopfaaGFnExactReadPunyx6
import Derived.Test.YthhomopijhopfaaGFnExactReadPunyx7
namespace Go.Proofs.Ythhomopijhopfaa.GFnExactReadPuny
open Go.RowKit Go.Proofs.YthhomopijhopfaaW.PrintWords Go.Proofs.YthhomopijhopfaaW.PrintLast Go.Proofs.YthhomopijhopfaaW.PrintMore
attribute [local go_sem] max2_int min2_int max_two min_two max_three min_three max_four min_four   -- for this text's walks alone
set_option linter.unusedVariables false
set_option linter.unusedSimpArgs false

/-! ### spec_ReadPuny: function 32 -/
mutual
def spec_ReadPuny.l0 : Nat → ByteArray → List Int → List Int → Int → Int → Option (List Int × Bool)
  | 0, _, _, _, _, _ => none
  | k + 1, x0, x4, x5, x6, x7 => if x7 < (x0.size : Int) then (if 0 ≤ x7 then (if (bt x0 x7) = 45 then (spec_ReadPuny.l0 k x0 x4 x5 x7 (wrap64 (x7 + 1))) else (spec_ReadPuny.l0 k x0 x4 x5 x6 (wrap64 (x7 + 1)))) else (none)) else (spec_ReadPuny.l1 k x0 x4 x5 x6 0)
def spec_ReadPuny.l1 : Nat → ByteArray → List Int → List Int → Int → Int → Option (List Int × Bool)
  | 0, _, _, _, _, _ => none
  | k + 1, x0, x4, x5, x6, x8 => if x8 < x6 then (if 0 ≤ x8 then (if x8 < (x0.size : Int) then (if x5.length < 17592186044416 then (spec_ReadPuny.l1 k x0 x4 (x5 ++ [wrap64 (bt x0 x8)]) x6 (wrap64 (x8 + 1))) else (none)) else (none)) else (none)) else (spec_ReadPuny.l2 k x0 x4 x5 (x5.length : Int) 128 0 72 (wrap64 (x6 + 1)))
def spec_ReadPuny.l2 : Nat → ByteArray → List Int → List Int → Int → Int → Int → Int → Int → Option (List Int × Bool)
  | 0, _, _, _, _, _, _, _, _ => none
  | k + 1, x0, x4, x5, x9, x10, x11, x12, x13 => if x13 < (x0.size : Int) then (spec_ReadPuny.l3 k x0 x4 x5 x9 x10 x11 x12 x13 x11 1 36) else ((spec_Puny.f k x5).bind fun bt204 => (if bt204.2 = true then (if bt204.1.toList = x0.toList then (some (x5, true)) else (some (x4, false))) else (some (x4, false))))
def spec_ReadPuny.l3 : Nat → ByteArray → List Int → List Int → Int → Int → Int → Int → Int → Int → Int → Int → Option (List Int × Bool)
  | 0, _, _, _, _, _, _, _, _, _, _, _ => none
  | k + 1, x0, x4, x5, x9, x10, x11, x12, x13, x14, x15, x16 => if x13 = (x0.size : Int) then (some (x4, false)) else (if 0 ≤ x13 then (if x13 < (x0.size : Int) then ((spec_l8PunyValue.f k (bt x0 x13)).bind fun t206 => (if t206 < 0 then (spec_ReadPuny.j4 k x0 x4 x5 x9 x10 x11 x12 (wrap64 (x13 + 1)) x14 x15 x16 t206 true) else (if x11 > 1099511627776 then (spec_ReadPuny.j4 k x0 x4 x5 x9 x10 x11 x12 (wrap64 (x13 + 1)) x14 x15 x16 t206 true) else (spec_ReadPuny.j4 k x0 x4 x5 x9 x10 x11 x12 (wrap64 (x13 + 1)) x14 x15 x16 t206 (decide (x15 > 1099511627776)))))) else (none)) else (none))
def spec_ReadPuny.j4 : Nat → ByteArray → List Int → List Int → Int → Int → Int → Int → Int → Int → Int → Int → Int → Bool → Option (List Int × Bool)
  | 0, _, _, _, _, _, _, _, _, _, _, _, _, _ => none
  | k + 1, x0, x4, x5, x9, x10, x11, x12, x13, x14, x15, x16, x17, x83 => if x83 = true then (some (x4, false)) else ((spec_l8Threshold.f x16 x12).bind fun t207 => (if x17 < t207 then ((spec_l8Bias.f k (wrap64 ((wrap64 (x11 + (wrap64 (x17 * x15)))) - x14)) (wrap64 ((x5.length : Int) + 1)) ((x5.length : Int) == x9)).bind fun t208 => (if (wrap64 ((x5.length : Int) + 1)) = 0 then (none) else (if (wrap64 (x10 + (wrap64 (Int.tdiv (wrap64 (x11 + (wrap64 (x17 * x15)))) (wrap64 ((x5.length : Int) + 1)))))) > 1114111 then (some (x4, false)) else (if (wrap64 ((x5.length : Int) + 1)) > 20 then (some (x4, false)) else ((some (([wrap64 (x10 + (wrap64 (Int.tdiv (wrap64 (x11 + (wrap64 (x17 * x15)))) (wrap64 ((x5.length : Int) + 1)))))] : List Int) : List Int)).bind fun y209 => (if 0 ≤ (Int.tmod (wrap64 (x11 + (wrap64 (x17 * x15)))) (wrap64 ((x5.length : Int) + 1))) then (if (Int.tmod (wrap64 (x11 + (wrap64 (x17 * x15)))) (wrap64 ((x5.length : Int) + 1))) ≤ (x5.length : Int) then ((some (x5.drop ((Int.tmod (wrap64 (x11 + (wrap64 (x17 * x15)))) (wrap64 ((x5.length : Int) + 1))) : Int).toNat : List Int)).bind fun y212 => (if y209.length + y212.length < 17592186044416 then ((some (y209 ++ y212 : List Int)).bind fun y216 => ((some (([] : List Int) : List Int)).bind fun y219 => ((some (x5.take ((Int.tmod (wrap64 (x11 + (wrap64 (x17 * x15)))) (wrap64 ((x5.length : Int) + 1))) : Int).toNat : List Int)).bind fun y222 => (if y219.length + y222.length < 17592186044416 then ((some (y219 ++ y222 : List Int)).bind fun y226 => (if y226.length + y216.length < 17592186044416 then (spec_ReadPuny.l2 k x0 x4 (y226 ++ y216) x9 (wrap64 (x10 + (wrap64 (Int.tdiv (wrap64 (x11 + (wrap64 (x17 * x15)))) (wrap64 ((x5.length : Int) + 1)))))) (wrap64 ((Int.tmod (wrap64 (x11 + (wrap64 (x17 * x15)))) (wrap64 ((x5.length : Int) + 1))) + 1)) t208 x13) else (none))) else (none))))) else (none))) else (none)) else (none))))))) else (spec_ReadPuny.l3 k x0 x4 x5 x9 x10 (wrap64 (x11 + (wrap64 (x17 * x15)))) x12 x13 x14 (wrap64 (x15 * (wrap64 (36 - t207)))) (wrap64 (x16 + 36)))))
end
def spec_ReadPuny.f (k : Nat) (a0 : ByteArray) : Option (List Int × Bool) := (some (([] : List Int) : List Int)).bind fun y195 => (if (a0.size : Int) > 60 then (some (y195, false)) else (spec_ReadPuny.l0 k a0 y195 (([] : List Int)) (-1) 0))
theorem spec_ReadPuny.mono_l : ∀ k, (∀ y0 y1 y2 y3 y4, LeO (spec_ReadPuny.l0 k y0 y1 y2 y3 y4) (spec_ReadPuny.l0 (k + 1) y0 y1 y2 y3 y4)) ∧ (∀ y0 y1 y2 y3 y4, LeO (spec_ReadPuny.l1 k y0 y1 y2 y3 y4) (spec_ReadPuny.l1 (k + 1) y0 y1 y2 y3 y4)) ∧ (∀ y0 y1 y2 y3 y4 y5 y6 y7, LeO (spec_ReadPuny.l2 k y0 y1 y2 y3 y4 y5 y6 y7) (spec_ReadPuny.l2 (k + 1) y0 y1 y2 y3 y4 y5 y6 y7)) ∧ (∀ y0 y1 y2 y3 y4 y5 y6 y7 y8 y9 y10, LeO (spec_ReadPuny.l3 k y0 y1 y2 y3 y4 y5 y6 y7 y8 y9 y10) (spec_ReadPuny.l3 (k + 1) y0 y1 y2 y3 y4 y5 y6 y7 y8 y9 y10)) ∧ (∀ y0 y1 y2 y3 y4 y5 y6 y7 y8 y9 y10 y11 y12, LeO (spec_ReadPuny.j4 k y0 y1 y2 y3 y4 y5 y6 y7 y8 y9 y10 y11 y12) (spec_ReadPuny.j4 (k + 1) y0 y1 y2 y3 y4 y5 y6 y7 y8 y9 y10 y11 y12))
  | 0 => ⟨fun _ _ _ _ _ r h => by simp [spec_ReadPuny.l0] at h, fun _ _ _ _ _ r h => by simp [spec_ReadPuny.l1] at h, fun _ _ _ _ _ _ _ _ r h => by simp [spec_ReadPuny.l2] at h, fun _ _ _ _ _ _ _ _ _ _ _ r h => by simp [spec_ReadPuny.l3] at h, fun _ _ _ _ _ _ _ _ _ _ _ _ _ r h => by simp [spec_ReadPuny.j4] at h⟩
  | k + 1 => by
    obtain ⟨ih0, ih1, ih2, ih3, ih4⟩ := spec_ReadPuny.mono_l k
    refine ⟨?_, ?_, ?_, ?_, ?_⟩
    · intro y0 y1 y2 y3 y4
      unfold spec_ReadPuny.l0
      repeat' first
      | (with_reducible exact ih0 _ _ _ _ _)
      | (with_reducible exact ih1 _ _ _ _ _)
      | (with_reducible exact ih2 _ _ _ _ _ _ _ _)
      | (with_reducible exact ih3 _ _ _ _ _ _ _ _ _ _ _)
      | (with_reducible exact ih4 _ _ _ _ _ _ _ _ _ _ _ _ _)
      | (with_reducible exact spec_Puny.mono _ _)
      | (with_reducible exact spec_l8Bias.mono _ _ _ _)
      | (with_reducible exact spec_l8PunyValue.mono _ _)
      | (with_reducible exact LeO.refl _)
      | (with_reducible exact LeO.none _)
      | (with_reducible refine LeO.ite ?_ ?_)
      | (with_reducible refine LeO.bind ?_ (fun _ => ?_))
      | exact ih0 _ _ _ _ _
      | exact ih1 _ _ _ _ _
      | exact ih2 _ _ _ _ _ _ _ _
      | exact ih3 _ _ _ _ _ _ _ _ _ _ _
      | exact ih4 _ _ _ _ _ _ _ _ _ _ _ _ _
      | exact spec_Puny.mono _ _
      | exact spec_l8Bias.mono _ _ _ _
      | exact spec_l8PunyValue.mono _ _
      | exact LeO.none _
      | refine LeO.ite ?_ ?_
      | refine LeO.bind ?_ (fun _ => ?_)
    · intro y0 y1 y2 y3 y4
      unfold spec_ReadPuny.l1
      repeat' first
      | (with_reducible exact ih0 _ _ _ _ _)
      | (with_reducible exact ih1 _ _ _ _ _)
      | (with_reducible exact ih2 _ _ _ _ _ _ _ _)
      | (with_reducible exact ih3 _ _ _ _ _ _ _ _ _ _ _)
      | (with_reducible exact ih4 _ _ _ _ _ _ _ _ _ _ _ _ _)
      | (with_reducible exact spec_Puny.mono _ _)
      | (with_reducible exact spec_l8Bias.mono _ _ _ _)
      | (with_reducible exact spec_l8PunyValue.mono _ _)
      | (with_reducible exact LeO.refl _)
      | (with_reducible exact LeO.none _)
      | (with_reducible refine LeO.ite ?_ ?_)
      | (with_reducible refine LeO.bind ?_ (fun _ => ?_))
      | exact ih0 _ _ _ _ _
      | exact ih1 _ _ _ _ _
      | exact ih2 _ _ _ _ _ _ _ _
      | exact ih3 _ _ _ _ _ _ _ _ _ _ _
      | exact ih4 _ _ _ _ _ _ _ _ _ _ _ _ _
      | exact spec_Puny.mono _ _
      | exact spec_l8Bias.mono _ _ _ _
      | exact spec_l8PunyValue.mono _ _
      | exact LeO.none _
      | refine LeO.ite ?_ ?_
      | refine LeO.bind ?_ (fun _ => ?_)
    · intro y0 y1 y2 y3 y4 y5 y6 y7
      unfold spec_ReadPuny.l2
      repeat' first
      | (with_reducible exact ih0 _ _ _ _ _)
      | (with_reducible exact ih1 _ _ _ _ _)
      | (with_reducible exact ih2 _ _ _ _ _ _ _ _)
      | (with_reducible exact ih3 _ _ _ _ _ _ _ _ _ _ _)
      | (with_reducible exact ih4 _ _ _ _ _ _ _ _ _ _ _ _ _)
      | (with_reducible exact spec_Puny.mono _ _)
      | (with_reducible exact spec_l8Bias.mono _ _ _ _)
      | (with_reducible exact spec_l8PunyValue.mono _ _)
      | (with_reducible exact LeO.refl _)
      | (with_reducible exact LeO.none _)
      | (with_reducible refine LeO.ite ?_ ?_)
      | (with_reducible refine LeO.bind ?_ (fun _ => ?_))
      | exact ih0 _ _ _ _ _
      | exact ih1 _ _ _ _ _
      | exact ih2 _ _ _ _ _ _ _ _
      | exact ih3 _ _ _ _ _ _ _ _ _ _ _
      | exact ih4 _ _ _ _ _ _ _ _ _ _ _ _ _
      | exact spec_Puny.mono _ _
      | exact spec_l8Bias.mono _ _ _ _
      | exact spec_l8PunyValue.mono _ _
      | exact LeO.none _
      | refine LeO.ite ?_ ?_
      | refine LeO.bind ?_ (fun _ => ?_)
    · intro y0 y1 y2 y3 y4 y5 y6 y7 y8 y9 y10
      unfold spec_ReadPuny.l3
      repeat' first
      | (with_reducible exact ih0 _ _ _ _ _)
      | (with_reducible exact ih1 _ _ _ _ _)
      | (with_reducible exact ih2 _ _ _ _ _ _ _ _)
      | (with_reducible exact ih3 _ _ _ _ _ _ _ _ _ _ _)
      | (with_reducible exact ih4 _ _ _ _ _ _ _ _ _ _ _ _ _)
      | (with_reducible exact spec_Puny.mono _ _)
      | (with_reducible exact spec_l8Bias.mono _ _ _ _)
      | (with_reducible exact spec_l8PunyValue.mono _ _)
      | (with_reducible exact LeO.refl _)
      | (with_reducible exact LeO.none _)
      | (with_reducible refine LeO.ite ?_ ?_)
      | (with_reducible refine LeO.bind ?_ (fun _ => ?_))
      | exact ih0 _ _ _ _ _
      | exact ih1 _ _ _ _ _
      | exact ih2 _ _ _ _ _ _ _ _
      | exact ih3 _ _ _ _ _ _ _ _ _ _ _
      | exact ih4 _ _ _ _ _ _ _ _ _ _ _ _ _
      | exact spec_Puny.mono _ _
      | exact spec_l8Bias.mono _ _ _ _
      | exact spec_l8PunyValue.mono _ _
      | exact LeO.none _
      | refine LeO.ite ?_ ?_
      | refine LeO.bind ?_ (fun _ => ?_)
    · intro y0 y1 y2 y3 y4 y5 y6 y7 y8 y9 y10 y11 y12
      unfold spec_ReadPuny.j4
      repeat' first
      | (with_reducible exact ih0 _ _ _ _ _)
      | (with_reducible exact ih1 _ _ _ _ _)
      | (with_reducible exact ih2 _ _ _ _ _ _ _ _)
      | (with_reducible exact ih3 _ _ _ _ _ _ _ _ _ _ _)
      | (with_reducible exact ih4 _ _ _ _ _ _ _ _ _ _ _ _ _)
      | (with_reducible exact spec_Puny.mono _ _)
      | (with_reducible exact spec_l8Bias.mono _ _ _ _)
      | (with_reducible exact spec_l8PunyValue.mono _ _)
      | (with_reducible exact LeO.refl _)
      | (with_reducible exact LeO.none _)
      | (with_reducible refine LeO.ite ?_ ?_)
      | (with_reducible refine LeO.bind ?_ (fun _ => ?_))
      | exact ih0 _ _ _ _ _
      | exact ih1 _ _ _ _ _
      | exact ih2 _ _ _ _ _ _ _ _
      | exact ih3 _ _ _ _ _ _ _ _ _ _ _
      | exact ih4 _ _ _ _ _ _ _ _ _ _ _ _ _
      | exact spec_Puny.mono _ _
      | exact spec_l8Bias.mono _ _ _ _
      | exact spec_l8PunyValue.mono _ _
      | exact LeO.none _
      | refine LeO.ite ?_ ?_
      | refine LeO.bind ?_ (fun _ => ?_)
theorem spec_ReadPuny.mono : ∀ a0 k, LeO (spec_ReadPuny.f k a0) (spec_ReadPuny.f (k + 1) a0) := by
  intro a0 k
  obtain ⟨ih0, ih1, ih2, ih3, ih4⟩ := spec_ReadPuny.mono_l k
  unfold spec_ReadPuny.f
  repeat' first
      | (with_reducible exact ih0 _ _ _ _ _)
      | (with_reducible exact ih1 _ _ _ _ _)
      | (with_reducible exact ih2 _ _ _ _ _ _ _ _)
      | (with_reducible exact ih3 _ _ _ _ _ _ _ _ _ _ _)
      | (with_reducible exact ih4 _ _ _ _ _ _ _ _ _ _ _ _ _)
      | (with_reducible exact spec_Puny.mono _ _)
      | (with_reducible exact spec_l8Bias.mono _ _ _ _)
      | (with_reducible exact spec_l8PunyValue.mono _ _)
      | (with_reducible exact LeO.refl _)
      | (with_reducible exact LeO.none _)
      | (with_reducible refine LeO.ite ?_ ?_)
      | (with_reducible refine LeO.bind ?_ (fun _ => ?_))
      | exact ih0 _ _ _ _ _
      | exact ih1 _ _ _ _ _
      | exact ih2 _ _ _ _ _ _ _ _
      | exact ih3 _ _ _ _ _ _ _ _ _ _ _
      | exact ih4 _ _ _ _ _ _ _ _ _ _ _ _ _
      | exact spec_Puny.mono _ _
      | exact spec_l8Bias.mono _ _ _ _
      | exact spec_l8PunyValue.mono _ _
      | exact LeO.none _
      | refine LeO.ite ?_ ?_
      | refine LeO.bind ?_ (fun _ => ?_)
set_option maxHeartbeats 8000000 in
set_option maxRecDepth 100000 in
theorem spec_ReadPuny.calls (k : Nat) (a0 : ByteArray) (r1 : List Int) (r2 : Bool) (w : World) (h : spec_ReadPuny.f k a0 = some (r1, r2)) :
    Calls Try.prog 32 #[.string a0] w fun e w' => ∃ v0_ : Value, e = .returned (.tuple #[v0_, .bool r2]) ∧ Kd.R (Kd.int .i64) 3 w' w.heap.size (fun _ => True) v0_ r1 ∧ Below w.heap.size w w' := by
  have HB := Aside0.mk (Below.refl w.heap.size w)
  have H : ((some (([] : List Int) : List Int)).bind fun y195 => (if (a0.size : Int) > 60 then (some (y195, false)) else (spec_ReadPuny.l0 k a0 y195 (([] : List Int)) (-1) 0))) = some (r1, r2) := h
  clear h
  obtain ⟨y195, hy195⟩ : ∃ y_ : List Int, y_ = (([] : List Int)) := ⟨_, rfl⟩
  replace H : (if (a0.size : Int) > 60 then (some (y195, false)) else (spec_ReadPuny.l0 k a0 y195 (([] : List Int)) (-1) 0)) = some (r1, r2) := by first | (rw [hy195]; with_reducible exact H) | (have H2_ := (Option.bind_some _ _).symm.trans H; rw [hy195]; with_reducible exact H2_) | (have H2_ := (Option.bind_some _ _).symm.trans H; with_reducible exact H2_) | with_reducible exact H | (rw [hy195]; exact H) | exact H
  have Ny195 := Aside0.mk hy195
  clear hy195
  by_cases c2 : (a0.size : Int) > 60
  · rw [if_pos c2] at H
    have c2b0 : decide (60 < (a0.size : Int)) = true := decide_eq_true c2
    have c2b1 : decide (60 < a0.size) = true := decide_eq_true (by omega)
    clear c2
    simp only [Option.some.injEq, Prod.mk.injEq] at H
    obtain ⟨rfl, rfl⟩ := H
    go_enter Try.func32, Try.ntmps32
    go_wp2_with (first | ((with_reducible refine gate_dst (N := 23) rfl ?_); refine Kd.R_lit (Kd.int .i64) _ 3 ?hg (N := 23) ?hd (xs := ([] : List Int)) (inner := []) (ok := fun _ => True) (okp := fun _ => True) ?hr ?hp (fun _ hk => hk) trivial (Below.refl _ _) (Nat.le_refl _) (by simp) ?_; (case hd => rfl); (case hg => rfl); (case hr => first | (go_simp; done) | (go_simp; rfl)); (case hp => exact (Reps.none _ _)); intro v196 w3 ho4 hb hg_ hnew_; clear hg_ hnew_; (first | rw [← Ny195.out] at ho4 | (simp only [Int.reduceToNat] at ho4; rw [← Ny195.out] at ho4)); have n0_ := Aside0.mk (Kd.R_lower ho4 (below_size (by repeat (first | (with_reducible first | exact HB.out | apply below_alloc | apply pw_below_drewN | apply below_drew1) | exact HB.out)))); have n1_ := Aside0.mk (below_step (by repeat (first | (with_reducible first | exact HB.out | apply below_alloc | apply pw_below_drewN | apply below_drew1) | exact HB.out)) hb); clear HB; have HO197 := n0_; have HB := n1_; clear n0_ n1_; clear hb ho4))
    go_ret2
    exact ⟨_, by first | rfl | (simp [errW_none, errW_some] <;> rfl) | (simp [*, errW_none, errW_some] <;> rfl), by (with_reducible repeat (first | apply Kd.R_alloc | apply Kd.R_drewN | apply Kd.R_drew)); exact HO197.out, by repeat (first | (with_reducible first | exact HB.out | apply below_alloc | apply pw_below_drewN | apply below_drew1) | exact HB.out)⟩
  · rw [if_neg c2] at H
    have c2b0 : decide (60 < (a0.size : Int)) = false := decide_eq_false c2
    have c2b1 : decide (60 < a0.size) = false := decide_eq_false (by omega)
    clear c2
    obtain ⟨y198, hy198⟩ : ∃ y_ : List Int, y_ = (([] : List Int)) := ⟨_, rfl⟩
    replace H : (spec_ReadPuny.l0 k a0 y195 y198 (-1) 0) = some (r1, r2) := by first | (rw [hy198]; with_reducible exact H) | (have H2_ := (Option.bind_some _ _).symm.trans H; rw [hy198]; with_reducible exact H2_) | (have H2_ := (Option.bind_some _ _).symm.trans H; with_reducible exact H2_) | with_reducible exact H | (rw [hy198]; exact H) | exact H
    have Ny198 := Aside0.mk hy198
    clear hy198
    have H' := Aside0.mk H
    clear H
    go_enter Try.func32, Try.ntmps32
    go_wp2_with (first | ((with_reducible refine gate_dst (N := 23) rfl ?_); refine Kd.R_lit (Kd.int .i64) _ 3 ?hg (N := 23) ?hd (xs := ([] : List Int)) (inner := []) (ok := fun _ => True) (okp := fun _ => True) ?hr ?hp (fun _ hk => hk) trivial (Below.refl _ _) (Nat.le_refl _) (by simp) ?_; (case hd => rfl); (case hg => rfl); (case hr => first | (go_simp; done) | (go_simp; rfl)); (case hp => exact (Reps.none _ _)); intro v196 w5 ho6 hb hg_ hnew_; clear hg_ hnew_; (first | rw [← Ny195.out] at ho6 | (simp only [Int.reduceToNat] at ho6; rw [← Ny195.out] at ho6)); have n0_ := Aside0.mk (Kd.R_lower ho6 (below_size (by repeat (first | (with_reducible first | exact HB.out | apply below_alloc | apply pw_below_drewN | apply below_drew1) | exact HB.out)))); have n1_ := Aside0.mk (below_step (by repeat (first | (with_reducible first | exact HB.out | apply below_alloc | apply pw_below_drewN | apply below_drew1) | exact HB.out)) hb); clear HB; have HO197 := n0_; have HB := n1_; clear n0_ n1_; clear hb ho6) | ((with_reducible refine gate_dst (N := 28) rfl ?_); refine Kd.R_lit (Kd.int .i64) _ 3 ?hg (N := 28) ?hd (xs := ([] : List Int)) (inner := []) (ok := fun _ => True) (okp := fun _ => True) ?hr ?hp (fun _ hk => hk) trivial (Below.refl _ _) (Nat.le_refl _) (by simp) ?_; (case hd => rfl); (case hg => rfl); (case hr => first | (go_simp; done) | (go_simp; rfl)); (case hp => exact (Reps.none _ _)); intro v199 w7 ho8 hb hg_ hnew_; clear hg_ hnew_; (first | rw [← Ny198.out] at ho8 | (simp only [Int.reduceToNat] at ho8; rw [← Ny198.out] at ho8)); have n0_ := Aside0.mk (Kd.R_elder' (by (with_reducible repeat (first | apply Kd.R_alloc | apply Kd.R_drewN | apply Kd.R_drew)); exact HO197.out) (Kd.R_base ho8) hb); have n1_ := Aside0.mk (Kd.R_lower (Kd.R_new' ho8 (Kd.R_lt (by (with_reducible repeat (first | apply Kd.R_alloc | apply Kd.R_drewN | apply Kd.R_drew)); exact HO197.out))) (below_size (by repeat (first | (with_reducible first | exact HB.out | apply below_alloc | apply pw_below_drewN | apply below_drew1) | exact HB.out)))); have n2_ := Aside0.mk (below_step (by repeat (first | (with_reducible first | exact HB.out | apply below_alloc | apply pw_below_drewN | apply below_drew1) | exact HB.out)) hb); clear HO197; clear HB; have HO197 := n0_; have HO200 := n1_; have HB := n2_; clear n0_ n1_ n2_; clear hb ho8))
    go_loopg [6, 7] k (fun kq v6 v7 w' => ∃ (x6_1 : Int) (x7_1 : Int), v6 = .int .i64 x6_1 ∧ v7 = .int .i64 x7_1 ∧ Aside0 (spec_ReadPuny.l0 kq a0 y195 y198 x6_1 x7_1 = some (r1, r2)) ∧ Aside0 (kq ≤ k) ∧ Aside0 (Kd.R (Kd.int .i64) 3 w' w.heap.size (fun k_ => some k_ ≠ (v199 : Value).ownBlock) v196 y195) ∧ Aside0 (Kd.R (Kd.int .i64) 3 w' w.heap.size (fun k_ => some k_ ≠ (v196 : Value).ownBlock) v199 y198) ∧ Aside0 (Below w.heap.size w w'))
    case atStart => exact ⟨((-1)), (0), (by first | rfl | (simp; done) | (simp [*]; done)), (by first | rfl | (simp; done) | (simp [*]; done)), H', ⟨Nat.le_refl _⟩, ⟨by (with_reducible repeat (first | apply Kd.R_alloc | apply Kd.R_drewN | apply Kd.R_drew)); exact Kd.R_mono HO197.out (fun _ hk => hk.2)⟩, ⟨by (with_reducible repeat (first | apply Kd.R_alloc | apply Kd.R_drewN | apply Kd.R_drew)); exact Kd.R_mono HO200.out (fun _ hk => hk.2)⟩, ⟨by repeat (first | (with_reducible first | exact HB.out | apply below_alloc | apply pw_below_drewN | apply below_drew1) | exact HB.out)⟩⟩
    case round =>
      clear H'
      try clear c2
      try clear c2b0
      try clear c2b1
      try clear p2
      try clear c3
      obtain ⟨x6_1, x7_1, rfl, rfl, HA, HK1, HO_4, HO_5, HB⟩ := hrel
      cases gk with
      | zero => exact absurd HA.out (by simp [spec_ReadPuny.l0])
      | succ k1 =>
        have H := HA.out
        clear HA
        simp only [spec_ReadPuny.l0] at H
        by_cases c9 : x7_1 < (a0.size : Int)
        · rw [if_pos c9] at H
          have c9b0 : decide (x7_1 < (a0.size : Int)) = true := decide_eq_true c9
          clear c9
          by_cases c10 : 0 ≤ x7_1
          · rw [if_pos c10] at H
            have c10b0 : decide (0 ≤ x7_1) = true := decide_eq_true c10
            clear c10
            by_cases c12 : (bt a0 x7_1) = 45
            · rw [if_pos c12] at H
              have c12b0 : ((bt a0 x7_1) == 45) = true := beq_iff_eq.mpr c12
              have c12b1 : ((bt a0 x7_1) != 45) = false := bne_eq_false_iff_eq.mpr c12
              clear c12
              have H' := Aside0.mk H
              clear H
              have p11 : 0 ≤ (x7_1 : Int) := of_decide_eq_true (by first | (with_reducible assumption) | assumption)
              have q11 : x7_1 < (a0.size : Int) := of_decide_eq_true (by first | (with_reducible assumption) | assumption)
              have hx11 := bt_at a0 x7_1
              replace p11 := eq_true p11
              replace q11 := eq_true q11
              go_wp2
              go_roundg k1
              case measure => have := HK1.out; omega
              case rel => exact ⟨(x7_1), (wrap64 (x7_1 + 1)), (by first | rfl | (simp; done) | (simp [*]; done)), (by first | rfl | (simp; done) | (simp [*]; done)), H', ⟨by have := HK1.out; omega⟩, ⟨by (with_reducible repeat (first | apply Kd.R_alloc | apply Kd.R_drewN | apply Kd.R_drew)); exact HO_4.out⟩, ⟨by (with_reducible repeat (first | apply Kd.R_alloc | apply Kd.R_drewN | apply Kd.R_drew)); exact HO_5.out⟩, ⟨by repeat (first | (with_reducible first | exact HB.out | apply below_alloc | apply pw_below_drewN | apply below_drew1) | exact HB.out)⟩⟩
            · rw [if_neg c12] at H
              have c12b0 : ((bt a0 x7_1) == 45) = false := beq_eq_false_iff_ne.mpr c12
              have c12b1 : ((bt a0 x7_1) != 45) = true := bne_iff_ne.mpr c12
              have H' := Aside0.mk H
              clear H
              have p11 : 0 ≤ (x7_1 : Int) := of_decide_eq_true (by first | (with_reducible assumption) | assumption)
              have q11 : x7_1 < (a0.size : Int) := of_decide_eq_true (by first | (with_reducible assumption) | assumption)
              have hx11 := bt_at a0 x7_1
              replace p11 := eq_true p11
              replace q11 := eq_true q11
              go_wp2
              go_roundg k1
              case measure => have := HK1.out; omega
              case rel => exact ⟨(x6_1), (wrap64 (x7_1 + 1)), (by first | rfl | (simp; done) | (simp [*]; done)), (by first | rfl | (simp; done) | (simp [*]; done)), H', ⟨by have := HK1.out; omega⟩, ⟨by (with_reducible repeat (first | apply Kd.R_alloc | apply Kd.R_drewN | apply Kd.R_drew)); exact HO_4.out⟩, ⟨by (with_reducible repeat (first | apply Kd.R_alloc | apply Kd.R_drewN | apply Kd.R_drew)); exact HO_5.out⟩, ⟨by repeat (first | (with_reducible first | exact HB.out | apply below_alloc | apply pw_below_drewN | apply below_drew1) | exact HB.out)⟩⟩
          · rw [if_neg c10] at H
            exact absurd H (by simp)
        · rw [if_neg c9] at H
          have c9b0 : decide (x7_1 < (a0.size : Int)) = false := decide_eq_false c9
          clear c9
          have H' := Aside0.mk H
          clear H
          go_wp2
          go_loopg [5, 8] k1 (fun kq v5 v8 w' => ∃ (x5_2 : List Int) (x8_2 : Int), v8 = .int .i64 x8_2 ∧ Aside0 (spec_ReadPuny.l1 kq a0 y195 x5_2 x6_1 x8_2 = some (r1, r2)) ∧ Aside0 (kq ≤ k1) ∧ Aside0 (Kd.R (Kd.int .i64) 3 w' w.heap.size (fun k_ => some k_ ≠ (v5 : Value).ownBlock) v196 y195) ∧ Aside0 (Kd.R (Kd.int .i64) 3 w' w.heap.size (fun k_ => some k_ ≠ (v196 : Value).ownBlock) v5 x5_2) ∧ Aside0 (Below w.heap.size w w'))
          case atStart => exact ⟨(y198), (0), (by first | rfl | (simp; done) | (simp [*]; done)), H', ⟨Nat.le_refl _⟩, ⟨by (with_reducible repeat (first | apply Kd.R_alloc | apply Kd.R_drewN | apply Kd.R_drew)); exact HO_4.out⟩, ⟨by (with_reducible repeat (first | apply Kd.R_alloc | apply Kd.R_drewN | apply Kd.R_drew)); exact HO_5.out⟩, ⟨by repeat (first | (with_reducible first | exact HB.out | apply below_alloc | apply pw_below_drewN | apply below_drew1) | exact HB.out)⟩⟩
          case round =>
            clear H'
            try clear c1
            try clear p1
            try clear q1
            try clear hx1
            try clear c2
            try clear c2b0
            try clear c2b1
            try clear p2
            try clear c3
            try clear p6
            try clear c9
            try clear c9b0
            try clear c10
            try clear c10b0
            try clear p11
            try clear q11
            try clear hx11
            try clear c12
            try clear c12b0
            try clear c12b1
            try clear p11
            try clear p2
            try clear q11
            obtain ⟨x5_2, x8_2, rfl, HA, HK2, HO_4, HO_5, HB⟩ := hrel
            cases gk with
            | zero => exact absurd HA.out (by simp [spec_ReadPuny.l1])
            | succ k2 =>
              have H := HA.out
              clear HA
              simp only [spec_ReadPuny.l1] at H
              by_cases c13 : x8_2 < x6_1
              · rw [if_pos c13] at H
                have c13b0 : decide (x8_2 < x6_1) = true := decide_eq_true c13
                clear c13
                by_cases c14 : 0 ≤ x8_2
                · rw [if_pos c14] at H
                  have c14b0 : decide (0 ≤ x8_2) = true := decide_eq_true c14
                  clear c14
                  by_cases c15 : x8_2 < (a0.size : Int)
                  · rw [if_pos c15] at H
                    have c15b0 : decide (x8_2 < (a0.size : Int)) = true := decide_eq_true c15
                    clear c15
                    by_cases c17 : x5_2.length < 17592186044416
                    · rw [if_pos c17] at H
                      have LMc17 := Aside0.mk c17
                      clear c17
                      obtain ⟨y201, hy201⟩ : ∃ y_ : List Int, y_ = (x5_2 ++ [wrap64 (bt a0 x8_2)]) := ⟨_, rfl⟩
                      replace H : (spec_ReadPuny.l1 k2 a0 y195 y201 x6_1 (wrap64 (x8_2 + 1))) = some (r1, r2) := by first | (rw [hy201]; with_reducible exact H) | (have H2_ := (Option.bind_some _ _).symm.trans H; rw [hy201]; with_reducible exact H2_) | (have H2_ := (Option.bind_some _ _).symm.trans H; with_reducible exact H2_) | with_reducible exact H | (rw [hy201]; exact H) | exact H
                      have Ny201 := Aside0.mk hy201
                      clear hy201
                      have H' := Aside0.mk H
                      clear H
                      have p16 : 0 ≤ (x8_2 : Int) := of_decide_eq_true (by first | (with_reducible assumption) | assumption)
                      have q16 : x8_2 < (a0.size : Int) := of_decide_eq_true (by first | (with_reducible assumption) | assumption)
                      have hx16 := bt_at a0 x8_2
                      replace p16 := eq_true p16
                      replace q16 := eq_true q16
                      go_wp2_with (first | ((with_reducible refine gate_builtin (b := .append) (xs := #[.tmp 45, .tmp 50]) rfl ?_); at_builtin; refine Kd.R_append (Kd.int .i64) (w0 := w) w.heap.size rfl (.tmp 45) (.tmp 50) 39 3 (.int .i64 0) 8 rfl Try.underlying39 info3 rfl (by decide) (by omega) u5 x5_2 (wrap64 (bt a0 x8_2)) [.int .i64 (wrap64 (bt a0 x8_2))] (fun k_ => some k_ ≠ (v196 : Value).ownBlock) (fun _ => False) rfl rfl ?aP (fun _ hk => hk.elim) ?aF ?aO ?aB ?aS ?aL ?_; (case aP => exact rfl); (case aB => exact (by repeat (first | (with_reducible first | exact HB.out | apply below_alloc | apply pw_below_drewN | apply below_drew1) | exact HB.out))); (case aF => exact (fun k_ hk => Kd.fresh' (Kd.R_lt (by (with_reducible repeat (first | apply Kd.R_alloc | apply Kd.R_drewN | apply Kd.R_drew)); exact HO_4.out)) k_ hk)); (case aO => exact (by (with_reducible repeat (first | apply Kd.R_alloc | apply Kd.R_drewN | apply Kd.R_drew)); exact HO_5.out)); (case aS => exact (below_size (by repeat (first | (with_reducible first | exact HB.out | apply below_alloc | apply pw_below_drewN | apply below_drew1) | exact HB.out)))); (case aL => have := LMc17.out; omega); intro v202 w18 ho hb hg hat; rw [← Ny201.out] at ho; have n0_ := Aside0.mk (Kd.R_after (ok := (fun _ => True)) (by (with_reducible repeat (first | apply Kd.R_alloc | apply Kd.R_drewN | apply Kd.R_drew)); exact Kd.R_mono HO_4.out (fun _ hk => ⟨trivial, hk⟩)) hg hat); have n1_ := Aside0.mk (hb); have n2_ := Aside0.mk (ho); clear HO_4; clear HB; clear HO_5; have HO_4 := n0_; have HB := n1_; have HO203 := n2_; clear n0_ n1_ n2_; clear ho hb hg hat))
                      go_roundg k2
                      case measure => have := HK1.out; have := HK2.out; omega
                      case rel => exact ⟨(y201), (wrap64 (x8_2 + 1)), (by first | rfl | (simp; done) | (simp [*]; done)), H', ⟨by have := HK1.out; have := HK2.out; omega⟩, ⟨by (with_reducible repeat (first | apply Kd.R_alloc | apply Kd.R_drewN | apply Kd.R_drew)); exact Kd.R_mono HO_4.out (fun _ hk => hk.2)⟩, ⟨by (with_reducible repeat (first | apply Kd.R_alloc | apply Kd.R_drewN | apply Kd.R_drew)); exact HO203.out⟩, ⟨by repeat (first | (with_reducible first | exact HB.out | apply below_alloc | apply pw_below_drewN | apply below_drew1) | exact HB.out)⟩⟩
                    · rw [if_neg c17] at H
                      exact absurd H (by simp)
                  · rw [if_neg c15] at H
                    exact absurd H (by simp)
                · rw [if_neg c14] at H
                  exact absurd H (by simp)
              · rw [if_neg c13] at H
                have c13b0 : decide (x8_2 < x6_1) = false := decide_eq_false c13
                clear c13
                have H' := Aside0.mk H
                clear H
                obtain ⟨Ao19, co19, eo19⟩ := Kd.R_slice HO_5.out
                subst eo19
                go_wp2
                go_loopg [5, 10, 11, 12, 13] k2 (fun kq v5 v10 v11 v12 v13 w' => ∃ (x5_3 : List Int) (x10_3 : Int) (x11_3 : Int) (x12_3 : Int) (x13_3 : Int), v10 = .int .i64 x10_3 ∧ v11 = .int .i64 x11_3 ∧ v12 = .int .i64 x12_3 ∧ v13 = .int .i64 x13_3 ∧ Aside0 (spec_ReadPuny.l2 kq a0 y195 x5_3 (x5_2.length : Int) x10_3 x11_3 x12_3 x13_3 = some (r1, r2)) ∧ Aside0 (kq ≤ k2) ∧ Aside0 (Kd.R (Kd.int .i64) 3 w' w.heap.size (fun k_ => some k_ ≠ (v5 : Value).ownBlock) v196 y195) ∧ Aside0 (Kd.R (Kd.int .i64) 3 w' w.heap.size (fun k_ => some k_ ≠ (v196 : Value).ownBlock) v5 x5_3) ∧ Aside0 (Below w.heap.size w w'))
                case atStart => exact ⟨(x5_2), (128), (0), (72), (wrap64 (x6_1 + 1)), (by first | rfl | (simp; done) | (simp [*]; done)), (by first | rfl | (simp; done) | (simp [*]; done)), (by first | rfl | (simp; done) | (simp [*]; done)), (by first | rfl | (simp; done) | (simp [*]; done)), H', ⟨Nat.le_refl _⟩, ⟨by (with_reducible repeat (first | apply Kd.R_alloc | apply Kd.R_drewN | apply Kd.R_drew)); exact HO_4.out⟩, ⟨by (with_reducible repeat (first | apply Kd.R_alloc | apply Kd.R_drewN | apply Kd.R_drew)); exact HO_5.out⟩, ⟨by repeat (first | (with_reducible first | exact HB.out | apply below_alloc | apply pw_below_drewN | apply below_drew1) | exact HB.out)⟩⟩
                case round =>
                  clear H'
                  try clear c1
                  try clear p1
                  try clear q1
                  try clear hx1
                  try clear c2
                  try clear c2b0
                  try clear c2b1
                  try clear p2
                  try clear c3
                  try clear p6
                  try clear c9
                  try clear c9b0
                  try clear c10
                  try clear c10b0
                  try clear p11
                  try clear q11
                  try clear hx11
                  try clear c12
                  try clear c12b0
                  try clear c12b1
                  try clear c13
                  try clear c13b0
                  try clear c14
                  try clear c14b0
                  try clear c15
                  try clear c15b0
                  try clear p16
                  try clear q16
                  try clear hx16
                  try clear c17
                  try clear p1
                  try clear p11
                  try clear p16
                  try clear p2
                  try clear p6
                  try clear q1
                  try clear q11
                  try clear q16
                  obtain ⟨x5_3, x10_3, x11_3, x12_3, x13_3, rfl, rfl, rfl, rfl, HA, HK3, HO_4, HO_5, HB⟩ := hrel
                  cases gk with
                  | zero => exact absurd HA.out (by simp [spec_ReadPuny.l2])
                  | succ k3 =>
                    have H := HA.out
                    clear HA
                    simp only [spec_ReadPuny.l2] at H
                    by_cases c20 : x13_3 < (a0.size : Int)
                    · rw [if_pos c20] at H
                      have c20b0 : decide (x13_3 < (a0.size : Int)) = true := decide_eq_true c20
                      clear c20
                      have H' := Aside0.mk H
                      clear H
                      go_wp2
                      go_loopg [11, 13, 15, 16] k3 (fun kq v11 v13 v15 v16 w' => ∃ (x11_4 : Int) (x13_4 : Int) (x15_4 : Int) (x16_4 : Int), v11 = .int .i64 x11_4 ∧ v13 = .int .i64 x13_4 ∧ v15 = .int .i64 x15_4 ∧ v16 = .int .i64 x16_4 ∧ Aside0 (spec_ReadPuny.l3 kq a0 y195 x5_3 (x5_2.length : Int) x10_3 x11_4 x12_3 x13_4 x11_3 x15_4 x16_4 = some (r1, r2)) ∧ Aside0 (kq ≤ k3) ∧ Aside0 (Kd.R (Kd.int .i64) 3 w' w.heap.size (fun k_ => some k_ ≠ (u5 : Value).ownBlock) v196 y195) ∧ Aside0 (Kd.R (Kd.int .i64) 3 w' w.heap.size (fun k_ => some k_ ≠ (v196 : Value).ownBlock) u5 x5_3) ∧ Aside0 (Below w.heap.size w w'))
                      case atStart => exact ⟨(x11_3), (x13_3), (1), (36), (by first | rfl | (simp; done) | (simp [*]; done)), (by first | rfl | (simp; done) | (simp [*]; done)), (by first | rfl | (simp; done) | (simp [*]; done)), (by first | rfl | (simp; done) | (simp [*]; done)), H', ⟨Nat.le_refl _⟩, ⟨by (with_reducible repeat (first | apply Kd.R_alloc | apply Kd.R_drewN | apply Kd.R_drew)); exact HO_4.out⟩, ⟨by (with_reducible repeat (first | apply Kd.R_alloc | apply Kd.R_drewN | apply Kd.R_drew)); exact HO_5.out⟩, ⟨by repeat (first | (with_reducible first | exact HB.out | apply below_alloc | apply pw_below_drewN | apply below_drew1) | exact HB.out)⟩⟩
                      case round =>
                        clear H'
                        try clear c1
                        try clear p1
                        try clear q1
                        try clear hx1
                        try clear c2
                        try clear c2b0
                        try clear c2b1
                        try clear p2
                        try clear c3
                        try clear p6
                        try clear c9
                        try clear c9b0
                        try clear c10
                        try clear c10b0
                        try clear p11
                        try clear q11
                        try clear hx11
                        try clear c12
                        try clear c12b0
                        try clear c12b1
                        try clear c13
                        try clear c13b0
                        try clear c14
                        try clear c14b0
                        try clear c15
                        try clear c15b0
                        try clear p16
                        try clear q16
                        try clear hx16
                        try clear c17
                        try clear c20
                        try clear c20b0
                        try clear p1
                        try clear p11
                        try clear p16
                        try clear p2
                        try clear p6
                        try clear q1
                        try clear q11
                        try clear q16
                        obtain ⟨x11_4, x13_4, x15_4, x16_4, rfl, rfl, rfl, rfl, HA, HK4, HO_4, HO_5, HB⟩ := hrel
                        cases gk with
                        | zero => exact absurd HA.out (by simp [spec_ReadPuny.l3])
                        | succ k4 =>
                          have H := HA.out
                          clear HA
                          simp only [spec_ReadPuny.l3] at H
                          by_cases c21 : x13_4 = (a0.size : Int)
                          · rw [if_pos c21] at H
                            have c21b0 : (x13_4 == (a0.size : Int)) = true := beq_iff_eq.mpr c21
                            have c21b1 : (x13_4 != (a0.size : Int)) = false := bne_eq_false_iff_eq.mpr c21
                            clear c21
                            simp only [Option.some.injEq, Prod.mk.injEq] at H
                            obtain ⟨rfl, rfl⟩ := H
                            go_wp2
                            go_ret2
                            exact ⟨_, by first | rfl | (simp [errW_none, errW_some] <;> rfl) | (simp [*, errW_none, errW_some] <;> rfl), by (with_reducible repeat (first | apply Kd.R_alloc | apply Kd.R_drewN | apply Kd.R_drew)); exact Kd.R_mono HO_4.out (fun _ hk => trivial), by repeat (first | (with_reducible first | exact HB.out | apply below_alloc | apply pw_below_drewN | apply below_drew1) | exact HB.out)⟩
                          · rw [if_neg c21] at H
                            have c21b0 : (x13_4 == (a0.size : Int)) = false := beq_eq_false_iff_ne.mpr c21
                            have c21b1 : (x13_4 != (a0.size : Int)) = true := bne_iff_ne.mpr c21
                            by_cases c22 : 0 ≤ x13_4
                            · rw [if_pos c22] at H
                              have c22b0 : decide (0 ≤ x13_4) = true := decide_eq_true c22
                              clear c22
                              by_cases c23 : x13_4 < (a0.size : Int)
                              · rw [if_pos c23] at H
                                have c23b0 : decide (x13_4 < (a0.size : Int)) = true := decide_eq_true c23
                                clear c23
                                replace H := Option.bind_eq_some_iff.mp H
                                obtain ⟨t206, A250, H⟩ := H
                                replace H : (if t206 < 0 then (spec_ReadPuny.j4 k4 a0 y195 x5_3 (x5_2.length : Int) x10_3 x11_4 x12_3 (wrap64 (x13_4 + 1)) x11_3 x15_4 x16_4 t206 true) else (if x11_4 > 1099511627776 then (spec_ReadPuny.j4 k4 a0 y195 x5_3 (x5_2.length : Int) x10_3 x11_4 x12_3 (wrap64 (x13_4 + 1)) x11_3 x15_4 x16_4 t206 true) else (spec_ReadPuny.j4 k4 a0 y195 x5_3 (x5_2.length : Int) x10_3 x11_4 x12_3 (wrap64 (x13_4 + 1)) x11_3 x15_4 x16_4 t206 (decide (x15_4 > 1099511627776))))) = some (r1, r2) := H
                                have A25 := Aside0.mk A250
                                clear A250
                                have HC26 := Aside0.mk H
                                clear H
                                have p24 : 0 ≤ (x13_4 : Int) := of_decide_eq_true (by first | (with_reducible assumption) | assumption)
                                have q24 : x13_4 < (a0.size : Int) := of_decide_eq_true (by first | (with_reducible assumption) | assumption)
                                have hx24 := bt_at a0 x13_4
                                replace p24 := eq_true p24
                                replace q24 := eq_true q24
                                go_upto_region 26 with (first | ((with_reducible refine gate_callee (f := 78) rfl ?_); refine goesL_ (some 71) rfl rfl Try.func78 (by kernel_rfl) rfl #[.int .u8 (bt a0 x13_4)] rfl (by (try simp only [List.map_toArray, List.map_cons, List.map_nil]); first | done | rfl | (simp only [List.length_drop, List.length_take]; rfl)) ?_; (with_reducible refine (spec_l8PunyValue.calls k4 (bt a0 x13_4) t206 _ A25.out).mono ?_); rintro e w' ⟨rfl, ⟨nd, rfl⟩⟩; refine ⟨_, rfl, ?_⟩))
                                (try simp only [Act.put, List.setIfInBounds_toArray, List.set_cons_zero, List.set_cons_succ])
                                go_cut [83] (fun v83 wc => ∃ (kq : Nat) (x83_25 : Bool), v83 = .bool x83_25 ∧ Aside0 (spec_ReadPuny.j4 kq a0 y195 x5_3 (x5_2.length : Int) x10_3 x11_4 x12_3 (wrap64 (x13_4 + 1)) x11_3 x15_4 x16_4 t206 x83_25 = some (r1, r2)) ∧ Aside0 (kq ≤ k4) ∧ Aside0 (Kd.R (Kd.int .i64) 3 wc w.heap.size (fun k_ => some k_ ≠ (u5 : Value).ownBlock) v196 y195) ∧ Aside0 (Kd.R (Kd.int .i64) 3 wc w.heap.size (fun k_ => some k_ ≠ (v196 : Value).ownBlock) u5 x5_3) ∧ Aside0 (Below w.heap.size w wc))
                                case first =>
                                  have H := HC26.out
                                  clear HC26
                                  by_cases c27 : t206 < 0
                                  · rw [if_pos c27] at H
                                    have c27b0 : decide (t206 < 0) = true := decide_eq_true c27
                                    clear c27
                                    (first | rw [c27b0] | (simp only [i64_w, i32_w]; rw [c27b0]) | skip)
                                    have H' := Aside0.mk H
                                    clear H
                                    go_wp2
                                    go_meet
                                    case rel => exact ⟨_, (true), (by first | rfl | (simp; done) | (simp [*]; done)), H', ⟨by have := HK1.out; have := HK2.out; have := HK3.out; have := HK4.out; first | omega | exact Nat.le_refl _⟩, ⟨by (with_reducible repeat (first | apply Kd.R_alloc | apply Kd.R_drewN | apply Kd.R_drew)); exact HO_4.out⟩, ⟨by (with_reducible repeat (first | apply Kd.R_alloc | apply Kd.R_drewN | apply Kd.R_drew)); exact HO_5.out⟩, ⟨by repeat (first | (with_reducible first | exact HB.out | apply below_alloc | apply pw_below_drewN | apply below_drew1) | exact HB.out)⟩⟩
                                  · rw [if_neg c27] at H
                                    have c27b0 : decide (t206 < 0) = false := decide_eq_false c27
                                    clear c27
                                    (first | rw [c27b0] | (simp only [i64_w, i32_w]; rw [c27b0]) | skip)
                                    by_cases c28 : x11_4 > 1099511627776
                                    · rw [if_pos c28] at H
                                      have c28b0 : decide (1099511627776 < x11_4) = true := decide_eq_true c28
                                      clear c28
                                      have H' := Aside0.mk H
                                      clear H
                                      go_wp2
                                      go_meet
                                      case rel => exact ⟨_, (true), (by first | rfl | (simp; done) | (simp [*]; done)), H', ⟨by have := HK1.out; have := HK2.out; have := HK3.out; have := HK4.out; first | omega | exact Nat.le_refl _⟩, ⟨by (with_reducible repeat (first | apply Kd.R_alloc | apply Kd.R_drewN | apply Kd.R_drew)); exact HO_4.out⟩, ⟨by (with_reducible repeat (first | apply Kd.R_alloc | apply Kd.R_drewN | apply Kd.R_drew)); exact HO_5.out⟩, ⟨by repeat (first | (with_reducible first | exact HB.out | apply below_alloc | apply pw_below_drewN | apply below_drew1) | exact HB.out)⟩⟩
                                    · rw [if_neg c28] at H
                                      have c28b0 : decide (1099511627776 < x11_4) = false := decide_eq_false c28
                                      clear c28
                                      have H' := Aside0.mk H
                                      clear H
                                      go_wp2
                                      go_meet
                                      case rel => exact ⟨_, (decide (x15_4 > 1099511627776)), (by first | rfl | (simp; done) | (simp [*]; done)), H', ⟨by have := HK1.out; have := HK2.out; have := HK3.out; have := HK4.out; first | omega | exact Nat.le_refl _⟩, ⟨by (with_reducible repeat (first | apply Kd.R_alloc | apply Kd.R_drewN | apply Kd.R_drew)); exact HO_4.out⟩, ⟨by (with_reducible repeat (first | apply Kd.R_alloc | apply Kd.R_drewN | apply Kd.R_drew)); exact HO_5.out⟩, ⟨by repeat (first | (with_reducible first | exact HB.out | apply below_alloc | apply pw_below_drewN | apply below_drew1) | exact HB.out)⟩⟩
                                case rest =>
                                  clear HC26
                                  try clear c1
                                  try clear p1
                                  try clear q1
                                  try clear hx1
                                  try clear c2
                                  try clear c2b0
                                  try clear c2b1
                                  try clear p2
                                  try clear q2
                                  try clear hx2
                                  try clear c3
                                  try clear p6
                                  try clear c7
                                  try clear c9
                                  try clear c9b0
                                  try clear c10
                                  try clear c10b0
                                  try clear p11
                                  try clear q11
                                  try clear hx11
                                  try clear c12
                                  try clear c12b0
                                  try clear c12b1
                                  try clear c13
                                  try clear c13b0
                                  try clear c14
                                  try clear c14b0
                                  try clear c15
                                  try clear c15b0
                                  try clear p16
                                  try clear q16
                                  try clear hx16
                                  try clear c17
                                  try clear c20
                                  try clear c20b0
                                  try clear c21
                                  try clear c21b0
                                  try clear c21b1
                                  try clear c22
                                  try clear c22b0
                                  try clear c23
                                  try clear c23b0
                                  try clear p24
                                  try clear q24
                                  try clear hx24
                                  try clear c27
                                  try clear c27b0
                                  try clear c28
                                  try clear c28b0
                                  try clear p1
                                  try clear p11
                                  try clear p16
                                  try clear p2
                                  try clear p24
                                  try clear p6
                                  try clear q1
                                  try clear q11
                                  try clear q16
                                  try clear q24
                                  obtain ⟨kq, x83_25, rfl, HA, HJ25, HO_4, HO_5, HB⟩ := hcut
                                  cases kq with
                                  | zero => exact absurd HA.out (by simp [spec_ReadPuny.j4])
                                  | succ kj25 =>
                                    have H := HA.out
                                    clear HA
                                    simp only [spec_ReadPuny.j4] at H
                                    by_cases c29 : x83_25 = true
                                    · subst c29
                                      have H1 : (some (y195, false)) = some (r1, r2) := by rw [if_pos rfl] at H; exact H
                                      clear H
                                      have H := H1
                                      clear H1
                                      simp only [Option.some.injEq, Prod.mk.injEq] at H
                                      obtain ⟨rfl, rfl⟩ := H
                                      go_wp2
                                      go_ret2
                                      exact ⟨_, by first | rfl | (simp [errW_none, errW_some] <;> rfl) | (simp [*, errW_none, errW_some] <;> rfl), by (with_reducible repeat (first | apply Kd.R_alloc | apply Kd.R_drewN | apply Kd.R_drew)); exact Kd.R_mono HO_4.out (fun _ hk => trivial), by repeat (first | (with_reducible first | exact HB.out | apply below_alloc | apply pw_below_drewN | apply below_drew1) | exact HB.out)⟩
                                    · replace c29 := Bool.eq_false_iff.mpr c29
                                      subst c29
                                      have H1 : ((spec_l8Threshold.f x16_4 x12_3).bind fun t207 => (if t206 < t207 then ((spec_l8Bias.f kj25 (wrap64 ((wrap64 (x11_4 + (wrap64 (t206 * x15_4)))) - x11_3)) (wrap64 ((x5_3.length : Int) + 1)) ((x5_3.length : Int) == (x5_2.length : Int))).bind fun t208 => (if (wrap64 ((x5_3.length : Int) + 1)) = 0 then (none) else (if (wrap64 (x10_3 + (wrap64 (Int.tdiv (wrap64 (x11_4 + (wrap64 (t206 * x15_4)))) (wrap64 ((x5_3.length : Int) + 1)))))) > 1114111 then (some (y195, false)) else (if (wrap64 ((x5_3.length : Int) + 1)) > 20 then (some (y195, false)) else ((some (([wrap64 (x10_3 + (wrap64 (Int.tdiv (wrap64 (x11_4 + (wrap64 (t206 * x15_4)))) (wrap64 ((x5_3.length : Int) + 1)))))] : List Int) : List Int)).bind fun y209 => (if 0 ≤ (Int.tmod (wrap64 (x11_4 + (wrap64 (t206 * x15_4)))) (wrap64 ((x5_3.length : Int) + 1))) then (if (Int.tmod (wrap64 (x11_4 + (wrap64 (t206 * x15_4)))) (wrap64 ((x5_3.length : Int) + 1))) ≤ (x5_3.length : Int) then ((some (x5_3.drop ((Int.tmod (wrap64 (x11_4 + (wrap64 (t206 * x15_4)))) (wrap64 ((x5_3.length : Int) + 1))) : Int).toNat : List Int)).bind fun y212 => (if y209.length + y212.length < 17592186044416 then ((some (y209 ++ y212 : List Int)).bind fun y216 => ((some (([] : List Int) : List Int)).bind fun y219 => ((some (x5_3.take ((Int.tmod (wrap64 (x11_4 + (wrap64 (t206 * x15_4)))) (wrap64 ((x5_3.length : Int) + 1))) : Int).toNat : List Int)).bind fun y222 => (if y219.length + y222.length < 17592186044416 then ((some (y219 ++ y222 : List Int)).bind fun y226 => (if y226.length + y216.length < 17592186044416 then (spec_ReadPuny.l2 kj25 a0 y195 (y226 ++ y216) (x5_2.length : Int) (wrap64 (x10_3 + (wrap64 (Int.tdiv (wrap64 (x11_4 + (wrap64 (t206 * x15_4)))) (wrap64 ((x5_3.length : Int) + 1)))))) (wrap64 ((Int.tmod (wrap64 (x11_4 + (wrap64 (t206 * x15_4)))) (wrap64 ((x5_3.length : Int) + 1))) + 1)) t208 (wrap64 (x13_4 + 1))) else (none))) else (none))))) else (none))) else (none)) else (none))))))) else (spec_ReadPuny.l3 kj25 a0 y195 x5_3 (x5_2.length : Int) x10_3 (wrap64 (x11_4 + (wrap64 (t206 * x15_4)))) x12_3 (wrap64 (x13_4 + 1)) x11_3 (wrap64 (x15_4 * (wrap64 (36 - t207)))) (wrap64 (x16_4 + 36))))) = some (r1, r2) := by rw [if_neg (show ¬ (false = true) by decide)] at H; exact H
                                      clear H
                                      have H := H1
                                      clear H1
                                      replace H := Option.bind_eq_some_iff.mp H
                                      obtain ⟨t207, A300, H⟩ := H
                                      replace H : (if t206 < t207 then ((spec_l8Bias.f kj25 (wrap64 ((wrap64 (x11_4 + (wrap64 (t206 * x15_4)))) - x11_3)) (wrap64 ((x5_3.length : Int) + 1)) ((x5_3.length : Int) == (x5_2.length : Int))).bind fun t208 => (if (wrap64 ((x5_3.length : Int) + 1)) = 0 then (none) else (if (wrap64 (x10_3 + (wrap64 (Int.tdiv (wrap64 (x11_4 + (wrap64 (t206 * x15_4)))) (wrap64 ((x5_3.length : Int) + 1)))))) > 1114111 then (some (y195, false)) else (if (wrap64 ((x5_3.length : Int) + 1)) > 20 then (some (y195, false)) else ((some (([wrap64 (x10_3 + (wrap64 (Int.tdiv (wrap64 (x11_4 + (wrap64 (t206 * x15_4)))) (wrap64 ((x5_3.length : Int) + 1)))))] : List Int) : List Int)).bind fun y209 => (if 0 ≤ (Int.tmod (wrap64 (x11_4 + (wrap64 (t206 * x15_4)))) (wrap64 ((x5_3.length : Int) + 1))) then (if (Int.tmod (wrap64 (x11_4 + (wrap64 (t206 * x15_4)))) (wrap64 ((x5_3.length : Int) + 1))) ≤ (x5_3.length : Int) then ((some (x5_3.drop ((Int.tmod (wrap64 (x11_4 + (wrap64 (t206 * x15_4)))) (wrap64 ((x5_3.length : Int) + 1))) : Int).toNat : List Int)).bind fun y212 => (if y209.length + y212.length < 17592186044416 then ((some (y209 ++ y212 : List Int)).bind fun y216 => ((some (([] : List Int) : List Int)).bind fun y219 => ((some (x5_3.take ((Int.tmod (wrap64 (x11_4 + (wrap64 (t206 * x15_4)))) (wrap64 ((x5_3.length : Int) + 1))) : Int).toNat : List Int)).bind fun y222 => (if y219.length + y222.length < 17592186044416 then ((some (y219 ++ y222 : List Int)).bind fun y226 => (if y226.length + y216.length < 17592186044416 then (spec_ReadPuny.l2 kj25 a0 y195 (y226 ++ y216) (x5_2.length : Int) (wrap64 (x10_3 + (wrap64 (Int.tdiv (wrap64 (x11_4 + (wrap64 (t206 * x15_4)))) (wrap64 ((x5_3.length : Int) + 1)))))) (wrap64 ((Int.tmod (wrap64 (x11_4 + (wrap64 (t206 * x15_4)))) (wrap64 ((x5_3.length : Int) + 1))) + 1)) t208 (wrap64 (x13_4 + 1))) else (none))) else (none))))) else (none))) else (none)) else (none))))))) else (spec_ReadPuny.l3 kj25 a0 y195 x5_3 (x5_2.length : Int) x10_3 (wrap64 (x11_4 + (wrap64 (t206 * x15_4)))) x12_3 (wrap64 (x13_4 + 1)) x11_3 (wrap64 (x15_4 * (wrap64 (36 - t207)))) (wrap64 (x16_4 + 36)))) = some (r1, r2) := H
                                      have A30 := Aside0.mk A300
                                      clear A300
                                      by_cases c31 : t206 < t207
                                      · rw [if_pos c31] at H
                                        have c31b0 : decide (t206 < t207) = true := decide_eq_true c31
                                        clear c31
                                        replace H := Option.bind_eq_some_iff.mp H
                                        obtain ⟨t208, A320, H⟩ := H
                                        replace H : (if (wrap64 ((x5_3.length : Int) + 1)) = 0 then (none) else (if (wrap64 (x10_3 + (wrap64 (Int.tdiv (wrap64 (x11_4 + (wrap64 (t206 * x15_4)))) (wrap64 ((x5_3.length : Int) + 1)))))) > 1114111 then (some (y195, false)) else (if (wrap64 ((x5_3.length : Int) + 1)) > 20 then (some (y195, false)) else ((some (([wrap64 (x10_3 + (wrap64 (Int.tdiv (wrap64 (x11_4 + (wrap64 (t206 * x15_4)))) (wrap64 ((x5_3.length : Int) + 1)))))] : List Int) : List Int)).bind fun y209 => (if 0 ≤ (Int.tmod (wrap64 (x11_4 + (wrap64 (t206 * x15_4)))) (wrap64 ((x5_3.length : Int) + 1))) then (if (Int.tmod (wrap64 (x11_4 + (wrap64 (t206 * x15_4)))) (wrap64 ((x5_3.length : Int) + 1))) ≤ (x5_3.length : Int) then ((some (x5_3.drop ((Int.tmod (wrap64 (x11_4 + (wrap64 (t206 * x15_4)))) (wrap64 ((x5_3.length : Int) + 1))) : Int).toNat : List Int)).bind fun y212 => (if y209.length + y212.length < 17592186044416 then ((some (y209 ++ y212 : List Int)).bind fun y216 => ((some (([] : List Int) : List Int)).bind fun y219 => ((some (x5_3.take ((Int.tmod (wrap64 (x11_4 + (wrap64 (t206 * x15_4)))) (wrap64 ((x5_3.length : Int) + 1))) : Int).toNat : List Int)).bind fun y222 => (if y219.length + y222.length < 17592186044416 then ((some (y219 ++ y222 : List Int)).bind fun y226 => (if y226.length + y216.length < 17592186044416 then (spec_ReadPuny.l2 kj25 a0 y195 (y226 ++ y216) (x5_2.length : Int) (wrap64 (x10_3 + (wrap64 (Int.tdiv (wrap64 (x11_4 + (wrap64 (t206 * x15_4)))) (wrap64 ((x5_3.length : Int) + 1)))))) (wrap64 ((Int.tmod (wrap64 (x11_4 + (wrap64 (t206 * x15_4)))) (wrap64 ((x5_3.length : Int) + 1))) + 1)) t208 (wrap64 (x13_4 + 1))) else (none))) else (none))))) else (none))) else (none)) else (none)))))) = some (r1, r2) := H
                                        have A32 := Aside0.mk A320
                                        clear A320
                                        by_cases c33 : (wrap64 ((x5_3.length : Int) + 1)) = 0
                                        · rw [if_pos c33] at H
                                          exact absurd H (by simp)
                                        · rw [if_neg c33] at H
                                          have c33b0 : ((wrap64 ((x5_3.length : Int) + 1)) == 0) = false := beq_eq_false_iff_ne.mpr c33
                                          have c33b1 : ((wrap64 ((x5_3.length : Int) + 1)) != 0) = true := bne_iff_ne.mpr c33
                                          by_cases c34 : (wrap64 (x10_3 + (wrap64 (Int.tdiv (wrap64 (x11_4 + (wrap64 (t206 * x15_4)))) (wrap64 ((x5_3.length : Int) + 1)))))) > 1114111
                                          · rw [if_pos c34] at H
                                            have c34b0 : decide (1114111 < (wrap64 (x10_3 + (wrap64 (Int.tdiv (wrap64 (x11_4 + (wrap64 (t206 * x15_4)))) (wrap64 ((x5_3.length : Int) + 1))))))) = true := decide_eq_true c34
                                            clear c34
                                            simp only [Option.some.injEq, Prod.mk.injEq] at H
                                            obtain ⟨rfl, rfl⟩ := H
                                            go_wp2_with (first | ((with_reducible refine gate_callee (f := 70) rfl ?_); refine goesL_ (some 92) rfl rfl Try.func70 (by kernel_rfl) rfl #[.int .i64 x16_4, .int .i64 x12_3] rfl (by (try simp only [List.map_toArray, List.map_cons, List.map_nil]); first | done | rfl | (simp only [List.length_drop, List.length_take]; rfl)) ?_; (with_reducible refine (spec_l8Threshold.calls x16_4 x12_3 t207 _ A30.out).mono ?_); rintro e w' ⟨rfl, ⟨nd, rfl⟩⟩; refine ⟨_, rfl, ?_⟩; obtain ⟨Ao35, co35, eo35⟩ := Kd.R_slice HO_5.out; subst eo35) | ((with_reducible refine gate_callee (f := 72) rfl ?_); refine goesL_ (some 111) rfl rfl Try.func72 (by kernel_rfl) rfl #[.int .i64 (wrap64 ((wrap64 (x11_4 + (wrap64 (t206 * x15_4)))) - x11_3)), .int .i64 (wrap64 ((x5_3.length : Int) + 1)), .bool ((x5_3.length : Int) == (x5_2.length : Int))] rfl (by (try simp only [List.map_toArray, List.map_cons, List.map_nil]); first | done | rfl | (simp only [List.length_drop, List.length_take]; rfl)) ?_; (with_reducible refine (spec_l8Bias.calls kj25 (wrap64 ((wrap64 (x11_4 + (wrap64 (t206 * x15_4)))) - x11_3)) (wrap64 ((x5_3.length : Int) + 1)) ((x5_3.length : Int) == (x5_2.length : Int)) t208 _ A32.out).mono ?_); rintro e w' ⟨rfl, ⟨nd, rfl⟩⟩; refine ⟨_, rfl, ?_⟩))
                                            go_ret2
                                            exact ⟨_, by first | rfl | (simp [errW_none, errW_some] <;> rfl) | (simp [*, errW_none, errW_some] <;> rfl), by (with_reducible repeat (first | apply Kd.R_alloc | apply Kd.R_drewN | apply Kd.R_drew)); exact Kd.R_mono HO_4.out (fun _ hk => trivial), by repeat (first | (with_reducible first | exact HB.out | apply below_alloc | apply pw_below_drewN | apply below_drew1) | exact HB.out)⟩
                                          · rw [if_neg c34] at H
                                            have c34b0 : decide (1114111 < (wrap64 (x10_3 + (wrap64 (Int.tdiv (wrap64 (x11_4 + (wrap64 (t206 * x15_4)))) (wrap64 ((x5_3.length : Int) + 1))))))) = false := decide_eq_false c34
                                            clear c34
                                            by_cases c36 : (wrap64 ((x5_3.length : Int) + 1)) > 20
                                            · rw [if_pos c36] at H
                                              have c36b0 : decide (20 < (wrap64 ((x5_3.length : Int) + 1))) = true := decide_eq_true c36
                                              clear c36
                                              simp only [Option.some.injEq, Prod.mk.injEq] at H
                                              obtain ⟨rfl, rfl⟩ := H
                                              go_wp2_with (first | ((with_reducible refine gate_callee (f := 70) rfl ?_); refine goesL_ (some 92) rfl rfl Try.func70 (by kernel_rfl) rfl #[.int .i64 x16_4, .int .i64 x12_3] rfl (by (try simp only [List.map_toArray, List.map_cons, List.map_nil]); first | done | rfl | (simp only [List.length_drop, List.length_take]; rfl)) ?_; (with_reducible refine (spec_l8Threshold.calls x16_4 x12_3 t207 _ A30.out).mono ?_); rintro e w' ⟨rfl, ⟨nd, rfl⟩⟩; refine ⟨_, rfl, ?_⟩; obtain ⟨Ao37, co37, eo37⟩ := Kd.R_slice HO_5.out; subst eo37) | ((with_reducible refine gate_callee (f := 72) rfl ?_); refine goesL_ (some 111) rfl rfl Try.func72 (by kernel_rfl) rfl #[.int .i64 (wrap64 ((wrap64 (x11_4 + (wrap64 (t206 * x15_4)))) - x11_3)), .int .i64 (wrap64 ((x5_3.length : Int) + 1)), .bool ((x5_3.length : Int) == (x5_2.length : Int))] rfl (by (try simp only [List.map_toArray, List.map_cons, List.map_nil]); first | done | rfl | (simp only [List.length_drop, List.length_take]; rfl)) ?_; (with_reducible refine (spec_l8Bias.calls kj25 (wrap64 ((wrap64 (x11_4 + (wrap64 (t206 * x15_4)))) - x11_3)) (wrap64 ((x5_3.length : Int) + 1)) ((x5_3.length : Int) == (x5_2.length : Int)) t208 _ A32.out).mono ?_); rintro e w' ⟨rfl, ⟨nd, rfl⟩⟩; refine ⟨_, rfl, ?_⟩))
                                              go_ret2
                                              exact ⟨_, by first | rfl | (simp [errW_none, errW_some] <;> rfl) | (simp [*, errW_none, errW_some] <;> rfl), by (with_reducible repeat (first | apply Kd.R_alloc | apply Kd.R_drewN | apply Kd.R_drew)); exact Kd.R_mono HO_4.out (fun _ hk => trivial), by repeat (first | (with_reducible first | exact HB.out | apply below_alloc | apply pw_below_drewN | apply below_drew1) | exact HB.out)⟩
                                            · rw [if_neg c36] at H
                                              have c36b0 : decide (20 < (wrap64 ((x5_3.length : Int) + 1))) = false := decide_eq_false c36
                                              clear c36
                                              obtain ⟨y209, hy209⟩ : ∃ y_ : List Int, y_ = (([wrap64 (x10_3 + (wrap64 (Int.tdiv (wrap64 (x11_4 + (wrap64 (t206 * x15_4)))) (wrap64 ((x5_3.length : Int) + 1)))))] : List Int)) := ⟨_, rfl⟩
                                              replace H : (if 0 ≤ (Int.tmod (wrap64 (x11_4 + (wrap64 (t206 * x15_4)))) (wrap64 ((x5_3.length : Int) + 1))) then (if (Int.tmod (wrap64 (x11_4 + (wrap64 (t206 * x15_4)))) (wrap64 ((x5_3.length : Int) + 1))) ≤ (x5_3.length : Int) then ((some (x5_3.drop ((Int.tmod (wrap64 (x11_4 + (wrap64 (t206 * x15_4)))) (wrap64 ((x5_3.length : Int) + 1))) : Int).toNat : List Int)).bind fun y212 => (if y209.length + y212.length < 17592186044416 then ((some (y209 ++ y212 : List Int)).bind fun y216 => ((some (([] : List Int) : List Int)).bind fun y219 => ((some (x5_3.take ((Int.tmod (wrap64 (x11_4 + (wrap64 (t206 * x15_4)))) (wrap64 ((x5_3.length : Int) + 1))) : Int).toNat : List Int)).bind fun y222 => (if y219.length + y222.length < 17592186044416 then ((some (y219 ++ y222 : List Int)).bind fun y226 => (if y226.length + y216.length < 17592186044416 then (spec_ReadPuny.l2 kj25 a0 y195 (y226 ++ y216) (x5_2.length : Int) (wrap64 (x10_3 + (wrap64 (Int.tdiv (wrap64 (x11_4 + (wrap64 (t206 * x15_4)))) (wrap64 ((x5_3.length : Int) + 1)))))) (wrap64 ((Int.tmod (wrap64 (x11_4 + (wrap64 (t206 * x15_4)))) (wrap64 ((x5_3.length : Int) + 1))) + 1)) t208 (wrap64 (x13_4 + 1))) else (none))) else (none))))) else (none))) else (none)) else (none)) = some (r1, r2) := by first | (rw [hy209]; with_reducible exact H) | (have H2_ := (Option.bind_some _ _).symm.trans H; rw [hy209]; with_reducible exact H2_) | (have H2_ := (Option.bind_some _ _).symm.trans H; with_reducible exact H2_) | with_reducible exact H | (rw [hy209]; exact H) | exact H
                                              have Ny209 := Aside0.mk hy209
                                              clear hy209
                                              obtain ⟨ji38, hji38⟩ : ∃ j_ : Int, (Int.tmod (wrap64 (x11_4 + (wrap64 (t206 * x15_4)))) (wrap64 ((x5_3.length : Int) + 1))) = j_ := ⟨_, rfl⟩
                                              replace H : (if 0 ≤ (ji38) then (if (ji38) ≤ (x5_3.length : Int) then ((some (x5_3.drop ((ji38) : Int).toNat : List Int)).bind fun y212 => (if y209.length + y212.length < 17592186044416 then ((some (y209 ++ y212 : List Int)).bind fun y216 => ((some (([] : List Int) : List Int)).bind fun y219 => ((some (x5_3.take ((ji38) : Int).toNat : List Int)).bind fun y222 => (if y219.length + y222.length < 17592186044416 then ((some (y219 ++ y222 : List Int)).bind fun y226 => (if y226.length + y216.length < 17592186044416 then (spec_ReadPuny.l2 kj25 a0 y195 (y226 ++ y216) (x5_2.length : Int) (wrap64 (x10_3 + (wrap64 (Int.tdiv (wrap64 (x11_4 + (wrap64 (t206 * x15_4)))) (wrap64 ((x5_3.length : Int) + 1)))))) (wrap64 ((ji38) + 1)) t208 (wrap64 (x13_4 + 1))) else (none))) else (none))))) else (none))) else (none)) else (none)) = some (r1, r2) := by first | (rw [hji38] at H; exact H) | (simp only [hji38] at H ⊢; exact H)
                                              (try rw [hji38] at A30)
                                              (try rw [hji38] at A32)
                                              by_cases c39 : 0 ≤ (ji38)
                                              · rw [if_pos c39] at H
                                                have c39b0 := eq_true c39
                                                have c39b1 : decide (0 ≤ (ji38)) = true := decide_eq_true c39
                                                clear c39
                                                by_cases c40 : (ji38) ≤ (x5_3.length : Int)
                                                · rw [if_pos c40] at H
                                                  have c40b0 := eq_true c40
                                                  have c40b1 : decide ((ji38) ≤ (x5_3.length : Int)) = true := decide_eq_true c40
                                                  clear c40
                                                  obtain ⟨y212, hy212⟩ : ∃ y_ : List Int, y_ = (x5_3.drop ((ji38) : Int).toNat) := ⟨_, rfl⟩
                                                  replace H : (if y209.length + y212.length < 17592186044416 then ((some (y209 ++ y212 : List Int)).bind fun y216 => ((some (([] : List Int) : List Int)).bind fun y219 => ((some (x5_3.take ((ji38) : Int).toNat : List Int)).bind fun y222 => (if y219.length + y222.length < 17592186044416 then ((some (y219 ++ y222 : List Int)).bind fun y226 => (if y226.length + y216.length < 17592186044416 then (spec_ReadPuny.l2 kj25 a0 y195 (y226 ++ y216) (x5_2.length : Int) (wrap64 (x10_3 + (wrap64 (Int.tdiv (wrap64 (x11_4 + (wrap64 (t206 * x15_4)))) (wrap64 ((x5_3.length : Int) + 1)))))) (wrap64 ((ji38) + 1)) t208 (wrap64 (x13_4 + 1))) else (none))) else (none))))) else (none)) = some (r1, r2) := by first | (rw [hy212]; with_reducible exact H) | (have H2_ := (Option.bind_some _ _).symm.trans H; rw [hy212]; with_reducible exact H2_) | (have H2_ := (Option.bind_some _ _).symm.trans H; with_reducible exact H2_) | with_reducible exact H | (rw [hy212]; exact H) | exact H
                                                  have Ny212 := Aside0.mk hy212
                                                  clear hy212
                                                  by_cases c41 : y209.length + y212.length < 17592186044416
                                                  · rw [if_pos c41] at H
                                                    have LMc41 := Aside0.mk c41
                                                    clear c41
                                                    obtain ⟨y216, hy216⟩ : ∃ y_ : List Int, y_ = (y209 ++ y212) := ⟨_, rfl⟩
                                                    replace H : ((some (([] : List Int) : List Int)).bind fun y219 => ((some (x5_3.take ((ji38) : Int).toNat : List Int)).bind fun y222 => (if y219.length + y222.length < 17592186044416 then ((some (y219 ++ y222 : List Int)).bind fun y226 => (if y226.length + y216.length < 17592186044416 then (spec_ReadPuny.l2 kj25 a0 y195 (y226 ++ y216) (x5_2.length : Int) (wrap64 (x10_3 + (wrap64 (Int.tdiv (wrap64 (x11_4 + (wrap64 (t206 * x15_4)))) (wrap64 ((x5_3.length : Int) + 1)))))) (wrap64 ((ji38) + 1)) t208 (wrap64 (x13_4 + 1))) else (none))) else (none)))) = some (r1, r2) := by first | (rw [hy216]; with_reducible exact H) | (have H2_ := (Option.bind_some _ _).symm.trans H; rw [hy216]; with_reducible exact H2_) | (have H2_ := (Option.bind_some _ _).symm.trans H; with_reducible exact H2_) | with_reducible exact H | (rw [hy216]; exact H) | exact H
                                                    have Ny216 := Aside0.mk hy216
                                                    clear hy216
                                                    obtain ⟨y219, hy219⟩ : ∃ y_ : List Int, y_ = (([] : List Int)) := ⟨_, rfl⟩
                                                    replace H : ((some (x5_3.take ((ji38) : Int).toNat : List Int)).bind fun y222 => (if y219.length + y222.length < 17592186044416 then ((some (y219 ++ y222 : List Int)).bind fun y226 => (if y226.length + y216.length < 17592186044416 then (spec_ReadPuny.l2 kj25 a0 y195 (y226 ++ y216) (x5_2.length : Int) (wrap64 (x10_3 + (wrap64 (Int.tdiv (wrap64 (x11_4 + (wrap64 (t206 * x15_4)))) (wrap64 ((x5_3.length : Int) + 1)))))) (wrap64 ((ji38) + 1)) t208 (wrap64 (x13_4 + 1))) else (none))) else (none))) = some (r1, r2) := by first | (rw [hy219]; with_reducible exact H) | (have H2_ := (Option.bind_some _ _).symm.trans H; rw [hy219]; with_reducible exact H2_) | (have H2_ := (Option.bind_some _ _).symm.trans H; with_reducible exact H2_) | with_reducible exact H | (rw [hy219]; exact H) | exact H
                                                    have Ny219 := Aside0.mk hy219
                                                    clear hy219
                                                    have c42b0 := eq_true (of_decide_eq_true (by first | (with_reducible assumption) | assumption) : 0 ≤ (ji38))
                                                    have c43b0 := eq_true (of_decide_eq_true (by first | (with_reducible assumption) | assumption) : (ji38) ≤ (x5_3.length : Int))
                                                    obtain ⟨y222, hy222⟩ : ∃ y_ : List Int, y_ = (x5_3.take ((ji38) : Int).toNat) := ⟨_, rfl⟩
                                                    replace H : (if y219.length + y222.length < 17592186044416 then ((some (y219 ++ y222 : List Int)).bind fun y226 => (if y226.length + y216.length < 17592186044416 then (spec_ReadPuny.l2 kj25 a0 y195 (y226 ++ y216) (x5_2.length : Int) (wrap64 (x10_3 + (wrap64 (Int.tdiv (wrap64 (x11_4 + (wrap64 (t206 * x15_4)))) (wrap64 ((x5_3.length : Int) + 1)))))) (wrap64 ((ji38) + 1)) t208 (wrap64 (x13_4 + 1))) else (none))) else (none)) = some (r1, r2) := by first | (rw [hy222]; with_reducible exact H) | (have H2_ := (Option.bind_some _ _).symm.trans H; rw [hy222]; with_reducible exact H2_) | (have H2_ := (Option.bind_some _ _).symm.trans H; with_reducible exact H2_) | with_reducible exact H | (rw [hy222]; exact H) | exact H
                                                    have Ny222 := Aside0.mk hy222
                                                    clear hy222
                                                    by_cases c44 : y219.length + y222.length < 17592186044416
                                                    · rw [if_pos c44] at H
                                                      have LMc44 := Aside0.mk c44
                                                      clear c44
                                                      obtain ⟨y226, hy226⟩ : ∃ y_ : List Int, y_ = (y219 ++ y222) := ⟨_, rfl⟩
                                                      replace H : (if y226.length + y216.length < 17592186044416 then (spec_ReadPuny.l2 kj25 a0 y195 (y226 ++ y216) (x5_2.length : Int) (wrap64 (x10_3 + (wrap64 (Int.tdiv (wrap64 (x11_4 + (wrap64 (t206 * x15_4)))) (wrap64 ((x5_3.length : Int) + 1)))))) (wrap64 ((ji38) + 1)) t208 (wrap64 (x13_4 + 1))) else (none)) = some (r1, r2) := by first | (rw [hy226]; with_reducible exact H) | (have H2_ := (Option.bind_some _ _).symm.trans H; rw [hy226]; with_reducible exact H2_) | (have H2_ := (Option.bind_some _ _).symm.trans H; with_reducible exact H2_) | with_reducible exact H | (rw [hy226]; exact H) | exact H
                                                      have Ny226 := Aside0.mk hy226
                                                      clear hy226
                                                      by_cases c45 : y226.length + y216.length < 17592186044416
                                                      · rw [if_pos c45] at H
                                                        have LMc45 := Aside0.mk c45
                                                        clear c45
                                                        obtain ⟨y229, hy229⟩ : ∃ y_ : List Int, y_ = (y226 ++ y216) := ⟨_, rfl⟩
                                                        replace H : (spec_ReadPuny.l2 kj25 a0 y195 y229 (x5_2.length : Int) (wrap64 (x10_3 + (wrap64 (Int.tdiv (wrap64 (x11_4 + (wrap64 (t206 * x15_4)))) (wrap64 ((x5_3.length : Int) + 1)))))) (wrap64 ((ji38) + 1)) t208 (wrap64 (x13_4 + 1))) = some (r1, r2) := by first | (rw [hy229]; with_reducible exact H) | (have H2_ := (Option.bind_some _ _).symm.trans H; rw [hy229]; with_reducible exact H2_) | (have H2_ := (Option.bind_some _ _).symm.trans H; with_reducible exact H2_) | with_reducible exact H | (rw [hy229]; exact H) | exact H
                                                        have Ny229 := Aside0.mk hy229
                                                        clear hy229
                                                        have H' := Aside0.mk H
                                                        clear H
                                                        go_wp2_with (first | ((with_reducible refine gate_callee (f := 70) rfl ?_); refine goesL_ (some 92) rfl rfl Try.func70 (by kernel_rfl) rfl #[.int .i64 x16_4, .int .i64 x12_3] rfl (by (try simp only [List.map_toArray, List.map_cons, List.map_nil]); first | done | rfl | (simp only [List.length_drop, List.length_take]; rfl)) ?_; (with_reducible refine (spec_l8Threshold.calls x16_4 x12_3 t207 _ A30.out).mono ?_); rintro e w' ⟨rfl, ⟨nd, rfl⟩⟩; refine ⟨_, rfl, ?_⟩; obtain ⟨Ao46, co46, eo46⟩ := Kd.R_slice HO_5.out; subst eo46) | ((with_reducible refine gate_callee (f := 72) rfl ?_); refine goesL_ (some 111) rfl rfl Try.func72 (by kernel_rfl) rfl #[.int .i64 (wrap64 ((wrap64 (x11_4 + (wrap64 (t206 * x15_4)))) - x11_3)), .int .i64 (wrap64 ((x5_3.length : Int) + 1)), .bool ((x5_3.length : Int) == (x5_2.length : Int))] rfl (by (try simp only [List.map_toArray, List.map_cons, List.map_nil]); first | done | rfl | (simp only [List.length_drop, List.length_take]; rfl)) ?_; (with_reducible refine (spec_l8Bias.calls kj25 (wrap64 ((wrap64 (x11_4 + (wrap64 (t206 * x15_4)))) - x11_3)) (wrap64 ((x5_3.length : Int) + 1)) ((x5_3.length : Int) == (x5_2.length : Int)) t208 _ A32.out).mono ?_); rintro e w' ⟨rfl, ⟨nd, rfl⟩⟩; refine ⟨_, rfl, ?_⟩) | ((with_reducible refine gate_dst (N := 128) rfl ?_); refine Kd.R_lit (Kd.int .i64) _ 3 ?hg (N := 128) ?hd (xs := ([wrap64 (x10_3 + (wrap64 (Int.tdiv (wrap64 (x11_4 + (wrap64 (t206 * x15_4)))) (wrap64 ((x5_3.length : Int) + 1)))))] : List Int)) (inner := [.int .i64 (wrap64 (x10_3 + (wrap64 (Int.tdiv (wrap64 (x11_4 + (wrap64 (t206 * x15_4)))) (wrap64 ((x5_3.length : Int) + 1))))))]) (ok := fun _ => True) (okp := fun _ => True) ?hr ?hp (fun _ hk => hk) trivial (Below.refl _ _) (Nat.le_refl _) (by simp) ?_; (case hd => rfl); (case hg => rfl); (case hr => first | (go_simp; done) | (go_simp; rfl)); (case hp => exact (Reps.one (show Kd.M (Kd.int .i64) _ _ _ (wrap64 (x10_3 + (wrap64 (Int.tdiv (wrap64 (x11_4 + (wrap64 (t206 * x15_4)))) (wrap64 ((x5_3.length : Int) + 1)))))) [.int .i64 (wrap64 (x10_3 + (wrap64 (Int.tdiv (wrap64 (x11_4 + (wrap64 (t206 * x15_4)))) (wrap64 ((x5_3.length : Int) + 1))))))] from rfl) (Reps.none _ _))); intro v210 w47 ho48 hb hg_ hnew_; clear hg_ hnew_; (first | rw [← Ny209.out] at ho48 | (simp only [Int.reduceToNat] at ho48; rw [← Ny209.out] at ho48)); have n0_ := Aside0.mk (Kd.R_elder' (by (with_reducible repeat (first | apply Kd.R_alloc | apply Kd.R_drewN | apply Kd.R_drew)); exact HO_4.out) (Kd.R_base ho48) hb); have n1_ := Aside0.mk (Kd.R_elder' (by (with_reducible repeat (first | apply Kd.R_alloc | apply Kd.R_drewN | apply Kd.R_drew)); exact HO_5.out) (Kd.R_base ho48) hb); have n2_ := Aside0.mk (Kd.R_lower (Kd.R_new' (Kd.R_new' ho48 (Kd.R_lt (by (with_reducible repeat (first | apply Kd.R_alloc | apply Kd.R_drewN | apply Kd.R_drew)); exact HO_4.out))) (Kd.R_lt (by (with_reducible repeat (first | apply Kd.R_alloc | apply Kd.R_drewN | apply Kd.R_drew)); exact HO_5.out))) (below_size (by repeat (first | (with_reducible first | exact HB.out | apply below_alloc | apply pw_below_drewN | apply below_drew1) | exact HB.out)))); have n3_ := Aside0.mk (below_step (by repeat (first | (with_reducible first | exact HB.out | apply below_alloc | apply pw_below_drewN | apply below_drew1) | exact HB.out)) hb); clear HO_4; clear HO_5; clear HB; have HO_4 := n0_; have HO_5 := n1_; have HO211 := n2_; have HB := n3_; clear n0_ n1_ n2_ n3_; clear hb ho48; have q49 : ((ji38) : Int) ≤ ((x5_3.length : Int) : Int) := of_decide_eq_true (by first | (with_reducible assumption) | assumption); obtain ⟨i049, hi049, _, hsz49, _⟩ := info_parts info3; have hroom49 : x5_3.length ≤ co46 := (Kd.R_reads' HO_5.out).2.1; have hC49 : Kd.C (Kd.int .i64) _ Ao46 x5_3.length x5_3 := (Kd.R_reads' HO_5.out).2.2; have q049 : (0 : Int) ≤ ((ji38) : Int) := of_decide_eq_true (by first | (with_reducible assumption) | assumption); have hcut49 := cut_from (P := Try.prog) 39 3 .i64 Try.underlying39 hi049 1 hsz49 Ao46 x5_3.length co46 (ji38) q049 q49; have hr49 := Kd.C_drop (m := ((ji38) : Int).toNat) (c := co46) hC49 (by omega) hroom49; obtain ⟨A49, hA49⟩ : ∃ A1, A1 = (if co46 = ((ji38) : Int).toNat then Ao46 else (Ao46 : Option Addr).map (·.add (((ji38) : Int).toNat * 1))) := ⟨_, rfl⟩; obtain ⟨c49, hc49⟩ : ∃ c1, c1 = co46 - ((ji38) : Int).toNat := ⟨_, rfl⟩; have hy49 : y212.length = x5_3.length - ((ji38) : Int).toNat := (by rw [Ny212.out, List.length_drop] <;> omega); rw [show (x5_3).drop ((ji38) : Int).toNat = y212 from Ny212.out.symm] at hr49; replace hr49 : Kd.C (Kd.int .i64) _ A49 y212.length y212 := (by rw [hA49]; exact hr49); rw [← hy49, ← hA49, ← hc49] at hcut49; have HR215 := Aside0.mk hr49; have HC215 := Aside0.mk (show y212.length ≤ c49 from by rw [hy49, hc49]; exact Nat.sub_le_sub_right hroom49 _); clear hr49 hC49 hroom49 hi049 hsz49 hc49; have KY49 := Aside0.mk hy49; have KA49 := Aside0.mk hA49; clear hy49 hA49; have KL49 := Aside0.mk (show ((ji38) : Int).toNat ≤ x5_3.length from by omega); replace q49 := eq_true q49) | ((with_reducible refine gate_builtin (b := .append) (xs := #[.tmp 128, .tmp 131]) rfl ?_); at_builtin; refine Kd.R_append_rows (Kd.int .i64) (w0 := w) w.heap.size rfl (.tmp 128) (.tmp 131) 39 3 (.int .i64 0) 8 rfl Try.underlying39 info3 rfl (by decide) (by omega) v210 y209 y212 _ _ _ (fun k_ => some k_ ≠ (v196 : Value).ownBlock ∧ some k_ ≠ (.slice Ao46 x5_3.length co46 : Value).ownBlock) (fun _ => False) rfl rfl ?aO ?aR (fun _ _ h => h) (fun _ h => h.elim) ?aF ?aB ?aS ?aL ?_; (case aR => repeat (first | exact (by repeat (first | (with_reducible exact HR215.out) | (with_reducible refine Kd.C_alloc ?_ _) | (with_reducible refine Kd.C_drewN ?_ _) | (with_reducible refine Kd.C_drew ?_) | exact HR215.out)) | (with_reducible refine Kd.C_alloc ?_ _) | (with_reducible refine Kd.C_drewN ?_ _) | (with_reducible refine Kd.C_drew ?_))); (case aB => exact (by repeat (first | (with_reducible first | exact HB.out | apply below_alloc | apply pw_below_drewN | apply below_drew1) | exact HB.out))); (case aF => exact (fun k_ hk => ⟨Kd.fresh' (Kd.R_lt (by (with_reducible repeat (first | apply Kd.R_alloc | apply Kd.R_drewN | apply Kd.R_drew)); exact HO_4.out)) k_ hk, Kd.fresh' (Kd.R_lt (by (with_reducible repeat (first | apply Kd.R_alloc | apply Kd.R_drewN | apply Kd.R_drew)); exact HO_5.out)) k_ hk⟩)); (case aO => exact (by (with_reducible repeat (first | apply Kd.R_alloc | apply Kd.R_drewN | apply Kd.R_drew)); exact Kd.R_mono HO211.out (fun _ hk => ⟨hk.1.2, hk.2⟩))); (case aS => exact (below_size (by repeat (first | (with_reducible first | exact HB.out | apply below_alloc | apply pw_below_drewN | apply below_drew1) | exact HB.out)))); (case aL => have := LMc41.out; omega); intro v217 w50 ho hb hg hat; rw [← Ny216.out] at ho; have n0_ := Aside0.mk (Kd.R_after (ok := (fun k_ => some k_ ≠ (.slice Ao46 x5_3.length co46 : Value).ownBlock)) (by (with_reducible repeat (first | apply Kd.R_alloc | apply Kd.R_drewN | apply Kd.R_drew)); exact HO_4.out) hg hat); have n1_ := Aside0.mk (Kd.R_after (ok := (fun k_ => some k_ ≠ (v196 : Value).ownBlock)) (by (with_reducible repeat (first | apply Kd.R_alloc | apply Kd.R_drewN | apply Kd.R_drew)); exact HO_5.out) hg hat); have n2_ := Aside0.mk (hb); have n3_ := Aside0.mk ((show Kd.C (Kd.int .i64) w50 A49 y212.length y212 from by rw [Ny212.out, KA49.out]; exact Kd.C_drop (m := ((ji38) : Int).toNat) (c := co46) ((Kd.R_reads' (Kd.R_after (ok := (fun k_ => some k_ ≠ (v196 : Value).ownBlock)) (by (with_reducible repeat (first | apply Kd.R_alloc | apply Kd.R_drewN | apply Kd.R_drew)); exact HO_5.out) hg hat)).2.2) KL49.out ((Kd.R_reads' (Kd.R_after (ok := (fun k_ => some k_ ≠ (v196 : Value).ownBlock)) (by (with_reducible repeat (first | apply Kd.R_alloc | apply Kd.R_drewN | apply Kd.R_drew)); exact HO_5.out) hg hat)).2.1))); have n4_ := Aside0.mk (ho); clear HO_4; clear HO_5; clear HB; clear HR215; clear HO211; have HO_4 := n0_; have HO_5 := n1_; have HB := n2_; have HR215 := n3_; have HO218 := n4_; clear n0_ n1_ n2_ n3_ n4_; clear ho hb hg hat) | ((with_reducible refine gate_dst (N := 133) rfl ?_); refine Kd.R_lit (Kd.int .i64) _ 3 ?hg (N := 133) ?hd (xs := ([] : List Int)) (inner := []) (ok := fun _ => True) (okp := fun _ => True) ?hr ?hp (fun _ hk => hk) trivial (Below.refl _ _) (Nat.le_refl _) (by simp) ?_; (case hd => rfl); (case hg => rfl); (case hr => first | (go_simp; done) | (go_simp; rfl)); (case hp => exact (Reps.none _ _)); intro v220 w51 ho52 hb hg_ hnew_; clear hg_ hnew_; (first | rw [← Ny219.out] at ho52 | (simp only [Int.reduceToNat] at ho52; rw [← Ny219.out] at ho52)); have n0_ := Aside0.mk (Kd.R_elder' (by (with_reducible repeat (first | apply Kd.R_alloc | apply Kd.R_drewN | apply Kd.R_drew)); exact HO_4.out) (Kd.R_base ho52) hb); have n1_ := Aside0.mk (Kd.R_elder' (by (with_reducible repeat (first | apply Kd.R_alloc | apply Kd.R_drewN | apply Kd.R_drew)); exact HO_5.out) (Kd.R_base ho52) hb); have n2_ := Aside0.mk (Kd.R_elder' (by (with_reducible repeat (first | apply Kd.R_alloc | apply Kd.R_drewN | apply Kd.R_drew)); exact HO218.out) (Kd.R_base ho52) hb); have n3_ := Aside0.mk (Kd.R_lower (Kd.R_new' (Kd.R_new' (Kd.R_new' ho52 (Kd.R_lt (by (with_reducible repeat (first | apply Kd.R_alloc | apply Kd.R_drewN | apply Kd.R_drew)); exact HO_4.out))) (Kd.R_lt (by (with_reducible repeat (first | apply Kd.R_alloc | apply Kd.R_drewN | apply Kd.R_drew)); exact HO_5.out))) (Kd.R_lt (by (with_reducible repeat (first | apply Kd.R_alloc | apply Kd.R_drewN | apply Kd.R_drew)); exact HO218.out))) (below_size (by repeat (first | (with_reducible first | exact HB.out | apply below_alloc | apply pw_below_drewN | apply below_drew1) | exact HB.out)))); have n4_ := Aside0.mk (Kd.C_below (by repeat (first | (with_reducible exact HR215.out) | (with_reducible refine Kd.C_alloc ?_ _) | (with_reducible refine Kd.C_drewN ?_ _) | (with_reducible refine Kd.C_drew ?_) | exact HR215.out)) hb); have n5_ := Aside0.mk (below_step (by repeat (first | (with_reducible first | exact HB.out | apply below_alloc | apply pw_below_drewN | apply below_drew1) | exact HB.out)) hb); clear HO_4; clear HO_5; clear HO218; clear HR215; clear HB; have HO_4 := n0_; have HO_5 := n1_; have HO218 := n2_; have HO221 := n3_; have HR215 := n4_; have HB := n5_; clear n0_ n1_ n2_ n3_ n4_ n5_; clear hb ho52; have q53 : ((ji38) : Int) ≤ ((x5_3.length : Int) : Int) := of_decide_eq_true (by first | (with_reducible assumption) | assumption); obtain ⟨i053, hi053, _, hsz53, _⟩ := info_parts info3; have hroom53 : x5_3.length ≤ co46 := (Kd.R_reads' HO_5.out).2.1; have hC53 : Kd.C (Kd.int .i64) _ Ao46 x5_3.length x5_3 := (Kd.R_reads' HO_5.out).2.2; have hcut53 := cut_to (P := Try.prog) 39 3 .i64 Try.underlying39 hi053 Ao46 x5_3.length co46 (ji38) (of_decide_eq_true (by first | (with_reducible assumption) | assumption)) q53 hroom53; have hr53 := Kd.C_take (m := ((ji38) : Int).toNat) hC53 (by omega); have hy53 : y222.length = ((ji38) : Int).toNat := (by rw [Ny222.out, List.length_take]; omega); rw [← Ny222.out] at hr53; rw [← hy53] at hcut53; have HR225 := Aside0.mk hr53; have HC225 := Aside0.mk (show y222.length ≤ co46 from by omega); clear hr53 hC53 hroom53 hi053 hsz53; have KY53 := Aside0.mk hy53; clear hy53; have KL53 := Aside0.mk (show ((ji38) : Int).toNat ≤ x5_3.length from by omega); replace q53 := eq_true q53) | ((with_reducible refine gate_builtin (b := .append) (xs := #[.tmp 133, .tmp 136]) rfl ?_); at_builtin; refine Kd.R_append_rows (Kd.int .i64) (w0 := w) w.heap.size rfl (.tmp 133) (.tmp 136) 39 3 (.int .i64 0) 8 rfl Try.underlying39 info3 rfl (by decide) (by omega) v220 y219 y222 _ _ _ (fun k_ => some k_ ≠ (v196 : Value).ownBlock ∧ some k_ ≠ (.slice Ao46 x5_3.length co46 : Value).ownBlock ∧ some k_ ≠ (v217 : Value).ownBlock) (fun _ => False) rfl rfl ?aO ?aR (fun _ _ h => h) (fun _ h => h.elim) ?aF ?aB ?aS ?aL ?_; (case aR => repeat (first | exact (by repeat (first | (with_reducible exact HR225.out) | (with_reducible refine Kd.C_alloc ?_ _) | (with_reducible refine Kd.C_drewN ?_ _) | (with_reducible refine Kd.C_drew ?_) | exact HR225.out)) | (with_reducible refine Kd.C_alloc ?_ _) | (with_reducible refine Kd.C_drewN ?_ _) | (with_reducible refine Kd.C_drew ?_))); (case aB => exact (by repeat (first | (with_reducible first | exact HB.out | apply below_alloc | apply pw_below_drewN | apply below_drew1) | exact HB.out))); (case aF => exact (fun k_ hk => ⟨Kd.fresh' (Kd.R_lt (by (with_reducible repeat (first | apply Kd.R_alloc | apply Kd.R_drewN | apply Kd.R_drew)); exact HO_4.out)) k_ hk, Kd.fresh' (Kd.R_lt (by (with_reducible repeat (first | apply Kd.R_alloc | apply Kd.R_drewN | apply Kd.R_drew)); exact HO_5.out)) k_ hk, Kd.fresh' (Kd.R_lt (by (with_reducible repeat (first | apply Kd.R_alloc | apply Kd.R_drewN | apply Kd.R_drew)); exact HO218.out)) k_ hk⟩)); (case aO => exact (by (with_reducible repeat (first | apply Kd.R_alloc | apply Kd.R_drewN | apply Kd.R_drew)); exact Kd.R_mono HO221.out (fun _ hk => ⟨hk.1.1.2, ⟨hk.1.2, hk.2⟩⟩))); (case aS => exact (below_size (by repeat (first | (with_reducible first | exact HB.out | apply below_alloc | apply pw_below_drewN | apply below_drew1) | exact HB.out)))); (case aL => have := LMc44.out; omega); intro v227 w54 ho hb hg hat; rw [← Ny226.out] at ho; have n0_ := Aside0.mk (Kd.R_after (ok := (fun k_ => some k_ ≠ (.slice Ao46 x5_3.length co46 : Value).ownBlock ∧ some k_ ≠ (v217 : Value).ownBlock)) (by (with_reducible repeat (first | apply Kd.R_alloc | apply Kd.R_drewN | apply Kd.R_drew)); exact HO_4.out) hg hat); have n1_ := Aside0.mk (Kd.R_after (ok := (fun k_ => some k_ ≠ (v196 : Value).ownBlock ∧ some k_ ≠ (v217 : Value).ownBlock)) (by (with_reducible repeat (first | apply Kd.R_alloc | apply Kd.R_drewN | apply Kd.R_drew)); exact HO_5.out) hg hat); have n2_ := Aside0.mk (Kd.R_after (ok := (fun k_ => some k_ ≠ (v196 : Value).ownBlock ∧ some k_ ≠ (.slice Ao46 x5_3.length co46 : Value).ownBlock)) (by (with_reducible repeat (first | apply Kd.R_alloc | apply Kd.R_drewN | apply Kd.R_drew)); exact HO218.out) hg hat); have n3_ := Aside0.mk (hb); have n4_ := Aside0.mk ((show Kd.C (Kd.int .i64) w54 A49 y212.length y212 from by rw [Ny212.out, KA49.out]; exact Kd.C_drop (m := ((ji38) : Int).toNat) (c := co46) ((Kd.R_reads' (Kd.R_after (ok := (fun k_ => some k_ ≠ (v196 : Value).ownBlock ∧ some k_ ≠ (v217 : Value).ownBlock)) (by (with_reducible repeat (first | apply Kd.R_alloc | apply Kd.R_drewN | apply Kd.R_drew)); exact HO_5.out) hg hat)).2.2) KL49.out ((Kd.R_reads' (Kd.R_after (ok := (fun k_ => some k_ ≠ (v196 : Value).ownBlock ∧ some k_ ≠ (v217 : Value).ownBlock)) (by (with_reducible repeat (first | apply Kd.R_alloc | apply Kd.R_drewN | apply Kd.R_drew)); exact HO_5.out) hg hat)).2.1))); have n5_ := Aside0.mk ((show Kd.C (Kd.int .i64) w54 Ao46 y222.length y222 from by rw [Ny222.out]; exact Kd.C_take (m := ((ji38) : Int).toNat) ((Kd.R_reads' (Kd.R_after (ok := (fun k_ => some k_ ≠ (v196 : Value).ownBlock ∧ some k_ ≠ (v217 : Value).ownBlock)) (by (with_reducible repeat (first | apply Kd.R_alloc | apply Kd.R_drewN | apply Kd.R_drew)); exact HO_5.out) hg hat)).2.2) KL53.out)); have n6_ := Aside0.mk (ho); clear HO_4; clear HO_5; clear HO218; clear HB; clear HR215; clear HR225; clear HO221; have HO_4 := n0_; have HO_5 := n1_; have HO218 := n2_; have HB := n3_; have HR215 := n4_; have HR225 := n5_; have HO228 := n6_; clear n0_ n1_ n2_ n3_ n4_ n5_ n6_; clear ho hb hg hat; obtain ⟨Ao56, co56, eo56⟩ := Kd.R_slice HO218.out; subst eo56) | ((with_reducible refine gate_builtin (b := .append) (xs := #[.tmp 137, .tmp 138]) rfl ?_); at_builtin; refine Kd.R_append_rows (Kd.int .i64) (w0 := w) w.heap.size rfl (.tmp 137) (.tmp 138) 39 3 (.int .i64 0) 8 rfl Try.underlying39 info3 rfl (by decide) (by omega) v227 y226 y216 _ _ _ (fun k_ => some k_ ≠ (v196 : Value).ownBlock ∧ some k_ ≠ (.slice Ao46 x5_3.length co46 : Value).ownBlock ∧ some k_ ≠ (.slice Ao56 y216.length co56 : Value).ownBlock) (fun _ => False) rfl rfl ?aO ?aR (fun _ _ h => h) (fun _ h => h.elim) ?aF ?aB ?aS ?aL ?_; (case aR => repeat (first | exact (Kd.R_reads' HO218.out).2.2 | (with_reducible refine Kd.C_alloc ?_ _) | (with_reducible refine Kd.C_drewN ?_ _) | (with_reducible refine Kd.C_drew ?_))); (case aB => exact (by repeat (first | (with_reducible first | exact HB.out | apply below_alloc | apply pw_below_drewN | apply below_drew1) | exact HB.out))); (case aF => exact (fun k_ hk => ⟨Kd.fresh' (Kd.R_lt (by (with_reducible repeat (first | apply Kd.R_alloc | apply Kd.R_drewN | apply Kd.R_drew)); exact HO_4.out)) k_ hk, Kd.fresh' (Kd.R_lt (by (with_reducible repeat (first | apply Kd.R_alloc | apply Kd.R_drewN | apply Kd.R_drew)); exact HO_5.out)) k_ hk, Kd.fresh' (Kd.R_lt (by (with_reducible repeat (first | apply Kd.R_alloc | apply Kd.R_drewN | apply Kd.R_drew)); exact HO218.out)) k_ hk⟩)); (case aO => exact (by (with_reducible repeat (first | apply Kd.R_alloc | apply Kd.R_drewN | apply Kd.R_drew)); exact HO228.out)); (case aS => exact (below_size (by repeat (first | (with_reducible first | exact HB.out | apply below_alloc | apply pw_below_drewN | apply below_drew1) | exact HB.out)))); (case aL => have := LMc45.out; omega); intro v230 w55 ho hb hg hat; rw [← Ny229.out] at ho; have n0_ := Aside0.mk (Kd.R_after (ok := (fun k_ => some k_ ≠ (.slice Ao46 x5_3.length co46 : Value).ownBlock ∧ some k_ ≠ (.slice Ao56 y216.length co56 : Value).ownBlock)) (by (with_reducible repeat (first | apply Kd.R_alloc | apply Kd.R_drewN | apply Kd.R_drew)); exact HO_4.out) hg hat); have n1_ := Aside0.mk (Kd.R_after (ok := (fun k_ => some k_ ≠ (v196 : Value).ownBlock ∧ some k_ ≠ (.slice Ao56 y216.length co56 : Value).ownBlock)) (by (with_reducible repeat (first | apply Kd.R_alloc | apply Kd.R_drewN | apply Kd.R_drew)); exact HO_5.out) hg hat); have n2_ := Aside0.mk (Kd.R_after (ok := (fun k_ => some k_ ≠ (v196 : Value).ownBlock ∧ some k_ ≠ (.slice Ao46 x5_3.length co46 : Value).ownBlock)) (by (with_reducible repeat (first | apply Kd.R_alloc | apply Kd.R_drewN | apply Kd.R_drew)); exact HO218.out) hg hat); have n3_ := Aside0.mk (hb); have n4_ := Aside0.mk ((show Kd.C (Kd.int .i64) w55 A49 y212.length y212 from by rw [Ny212.out, KA49.out]; exact Kd.C_drop (m := ((ji38) : Int).toNat) (c := co46) ((Kd.R_reads' (Kd.R_after (ok := (fun k_ => some k_ ≠ (v196 : Value).ownBlock ∧ some k_ ≠ (.slice Ao56 y216.length co56 : Value).ownBlock)) (by (with_reducible repeat (first | apply Kd.R_alloc | apply Kd.R_drewN | apply Kd.R_drew)); exact HO_5.out) hg hat)).2.2) KL49.out ((Kd.R_reads' (Kd.R_after (ok := (fun k_ => some k_ ≠ (v196 : Value).ownBlock ∧ some k_ ≠ (.slice Ao56 y216.length co56 : Value).ownBlock)) (by (with_reducible repeat (first | apply Kd.R_alloc | apply Kd.R_drewN | apply Kd.R_drew)); exact HO_5.out) hg hat)).2.1))); have n5_ := Aside0.mk ((show Kd.C (Kd.int .i64) w55 Ao46 y222.length y222 from by rw [Ny222.out]; exact Kd.C_take (m := ((ji38) : Int).toNat) ((Kd.R_reads' (Kd.R_after (ok := (fun k_ => some k_ ≠ (v196 : Value).ownBlock ∧ some k_ ≠ (.slice Ao56 y216.length co56 : Value).ownBlock)) (by (with_reducible repeat (first | apply Kd.R_alloc | apply Kd.R_drewN | apply Kd.R_drew)); exact HO_5.out) hg hat)).2.2) KL53.out)); have n6_ := Aside0.mk (ho); clear HO_4; clear HO_5; clear HO218; clear HB; clear HR215; clear HR225; clear HO228; have HO_4 := n0_; have HO_5 := n1_; have HO218 := n2_; have HB := n3_; have HR215 := n4_; have HR225 := n5_; have HO231 := n6_; clear n0_ n1_ n2_ n3_ n4_ n5_ n6_; clear ho hb hg hat))
                                                        go_roundg kj25
                                                        case measure => have := HK1.out; have := HK2.out; have := HK3.out; have := HK4.out; have := HJ25.out; omega
                                                        case rel => exact ⟨(y229), (wrap64 (x10_3 + (wrap64 (Int.tdiv (wrap64 (x11_4 + (wrap64 (t206 * x15_4)))) (wrap64 ((x5_3.length : Int) + 1)))))), (wrap64 ((ji38) + 1)), (t208), ((wrap64 (x13_4 + 1))), (by first | rfl | (simp; done) | (simp [*]; done)), (by first | rfl | (simp; done) | (simp only [← hji38] <;> (first | rfl | simp)) | (simp [*]; done)), (by first | rfl | (simp; done) | (simp [*]; done)), (by first | rfl | (simp; done) | (simp [*]; done)), H', ⟨by have := HK1.out; have := HK2.out; have := HK3.out; have := HK4.out; have := HJ25.out; omega⟩, ⟨by (with_reducible repeat (first | apply Kd.R_alloc | apply Kd.R_drewN | apply Kd.R_drew)); exact Kd.R_mono HO_4.out (fun _ hk => hk.2)⟩, ⟨by (with_reducible repeat (first | apply Kd.R_alloc | apply Kd.R_drewN | apply Kd.R_drew)); exact Kd.R_mono HO231.out (fun _ hk => hk.1)⟩, ⟨by repeat (first | (with_reducible first | exact HB.out | apply below_alloc | apply pw_below_drewN | apply below_drew1) | exact HB.out)⟩⟩
                                                      · rw [if_neg c45] at H
                                                        exact absurd H (by simp)
                                                    · rw [if_neg c44] at H
                                                      exact absurd H (by simp)
                                                  · rw [if_neg c41] at H
                                                    exact absurd H (by simp)
                                                · rw [if_neg c40] at H
                                                  exact absurd H (by simp)
                                              · rw [if_neg c39] at H
                                                exact absurd H (by simp)
                                      · rw [if_neg c31] at H
                                        have c31b0 : decide (t206 < t207) = false := decide_eq_false c31
                                        clear c31
                                        have H' := Aside0.mk H
                                        clear H
                                        go_wp2_with (first | ((with_reducible refine gate_callee (f := 70) rfl ?_); refine goesL_ (some 92) rfl rfl Try.func70 (by kernel_rfl) rfl #[.int .i64 x16_4, .int .i64 x12_3] rfl (by (try simp only [List.map_toArray, List.map_cons, List.map_nil]); first | done | rfl | (simp only [List.length_drop, List.length_take]; rfl)) ?_; (with_reducible refine (spec_l8Threshold.calls x16_4 x12_3 t207 _ A30.out).mono ?_); rintro e w' ⟨rfl, ⟨nd, rfl⟩⟩; refine ⟨_, rfl, ?_⟩))
                                        go_roundg kj25
                                        case measure => have := HK1.out; have := HK2.out; have := HK3.out; have := HK4.out; have := HJ25.out; omega
                                        case rel => exact ⟨(wrap64 (x11_4 + (wrap64 (t206 * x15_4)))), ((wrap64 (x13_4 + 1))), (wrap64 (x15_4 * (wrap64 (36 - t207)))), (wrap64 (x16_4 + 36)), (by first | rfl | (simp; done) | (simp [*]; done)), (by first | rfl | (simp; done) | (simp [*]; done)), (by first | rfl | (simp; done) | (simp [*]; done)), (by first | rfl | (simp; done) | (simp [*]; done)), H', ⟨by have := HK1.out; have := HK2.out; have := HK3.out; have := HK4.out; have := HJ25.out; omega⟩, ⟨by (with_reducible repeat (first | apply Kd.R_alloc | apply Kd.R_drewN | apply Kd.R_drew)); exact HO_4.out⟩, ⟨by (with_reducible repeat (first | apply Kd.R_alloc | apply Kd.R_drewN | apply Kd.R_drew)); exact HO_5.out⟩, ⟨by repeat (first | (with_reducible first | exact HB.out | apply below_alloc | apply pw_below_drewN | apply below_drew1) | exact HB.out)⟩⟩
                              · rw [if_neg c23] at H
                                exact absurd H (by simp)
                            · rw [if_neg c22] at H
                              exact absurd H (by simp)
                    · rw [if_neg c20] at H
                      have c20b0 : decide (x13_3 < (a0.size : Int)) = false := decide_eq_false c20
                      clear c20
                      replace H := Option.bind_eq_some_iff.mp H
                      obtain ⟨⟨t204, t205⟩, A570, H⟩ := H
                      replace H : (if t205 = true then (if t204.toList = a0.toList then (some (x5_3, true)) else (some (y195, false))) else (some (y195, false))) = some (r1, r2) := H
                      have A57 := Aside0.mk A570
                      clear A570
                      by_cases c58 : t205 = true
                      · subst c58
                        have H1 : (if t204.toList = a0.toList then (some (x5_3, true)) else (some (y195, false))) = some (r1, r2) := by rw [if_pos rfl] at H; exact H
                        clear H
                        have H := H1
                        clear H1
                        by_cases c59 : t204.toList = a0.toList
                        · rw [if_pos c59] at H
                          have c59b0 : (t204.toList == a0.toList) = true := beq_iff_eq.mpr c59
                          have c59b1 : (t204.toList != a0.toList) = false := bne_eq_false_iff_eq.mpr c59
                          clear c59
                          simp only [Option.some.injEq, Prod.mk.injEq] at H
                          obtain ⟨rfl, rfl⟩ := H
                          obtain ⟨Ao60, co60, eo60⟩ := Kd.R_slice HO_5.out
                          subst eo60
                          go_wp2_with (first | ((with_reducible refine gate_callee (f := 26) rfl ?_); refine goesL_ (some 144) rfl rfl Try.func26 (by kernel_rfl) rfl #[.slice Ao60 x5_3.length co60] rfl (by (try simp only [List.map_toArray, List.map_cons, List.map_nil]); first | done | rfl | (simp only [List.length_drop, List.length_take]; rfl)) ?_; (with_reducible refine (spec_Puny.calls k3 _ _ x5_3 t204 true _ ?side1 ?side2 A57.out).mono ?_); (case side1 => repeat (first | exact (Kd.R_reads' HO_5.out).2.2 | (with_reducible refine Kd.C_alloc ?_ _) | (with_reducible refine Kd.C_drewN ?_ _) | (with_reducible refine Kd.C_drew ?_))); (case side2 => exact (Kd.R_reads' HO_5.out).2.1); rintro e w61 ⟨rfl, hb⟩; refine ⟨_, rfl, ?_⟩; have n0_ := Aside0.mk (Kd.R_below (by (with_reducible repeat (first | apply Kd.R_alloc | apply Kd.R_drewN | apply Kd.R_drew)); exact HO_4.out) hb); have n1_ := Aside0.mk (Kd.R_below (by (with_reducible repeat (first | apply Kd.R_alloc | apply Kd.R_drewN | apply Kd.R_drew)); exact HO_5.out) hb); have n2_ := Aside0.mk (below_step (by repeat (first | (with_reducible first | exact HB.out | apply below_alloc | apply pw_below_drewN | apply below_drew1) | exact HB.out)) hb); clear HO_4; clear HO_5; clear HB; have HO_4 := n0_; have HO_5 := n1_; have HB := n2_; clear n0_ n1_ n2_; (try clear hb); (try clear hb2); (try clear hk); (try clear hi)))
                          go_ret2
                          exact ⟨_, by first | rfl | (simp [errW_none, errW_some] <;> rfl) | (simp [*, errW_none, errW_some] <;> rfl), by (with_reducible repeat (first | apply Kd.R_alloc | apply Kd.R_drewN | apply Kd.R_drew)); exact Kd.R_mono HO_5.out (fun _ hk => trivial), by repeat (first | (with_reducible first | exact HB.out | apply below_alloc | apply pw_below_drewN | apply below_drew1) | exact HB.out)⟩
                        · rw [if_neg c59] at H
                          have c59b0 : (t204.toList == a0.toList) = false := beq_eq_false_iff_ne.mpr c59
                          have c59b1 : (t204.toList != a0.toList) = true := bne_iff_ne.mpr c59
                          simp only [Option.some.injEq, Prod.mk.injEq] at H
                          obtain ⟨rfl, rfl⟩ := H
                          obtain ⟨Ao62, co62, eo62⟩ := Kd.R_slice HO_5.out
                          subst eo62
                          go_wp2_with (first | ((with_reducible refine gate_callee (f := 26) rfl ?_); refine goesL_ (some 144) rfl rfl Try.func26 (by kernel_rfl) rfl #[.slice Ao62 x5_3.length co62] rfl (by (try simp only [List.map_toArray, List.map_cons, List.map_nil]); first | done | rfl | (simp only [List.length_drop, List.length_take]; rfl)) ?_; (with_reducible refine (spec_Puny.calls k3 _ _ x5_3 t204 true _ ?side1 ?side2 A57.out).mono ?_); (case side1 => repeat (first | exact (Kd.R_reads' HO_5.out).2.2 | (with_reducible refine Kd.C_alloc ?_ _) | (with_reducible refine Kd.C_drewN ?_ _) | (with_reducible refine Kd.C_drew ?_))); (case side2 => exact (Kd.R_reads' HO_5.out).2.1); rintro e w63 ⟨rfl, hb⟩; refine ⟨_, rfl, ?_⟩; have n0_ := Aside0.mk (Kd.R_below (by (with_reducible repeat (first | apply Kd.R_alloc | apply Kd.R_drewN | apply Kd.R_drew)); exact HO_4.out) hb); have n1_ := Aside0.mk (Kd.R_below (by (with_reducible repeat (first | apply Kd.R_alloc | apply Kd.R_drewN | apply Kd.R_drew)); exact HO_5.out) hb); have n2_ := Aside0.mk (below_step (by repeat (first | (with_reducible first | exact HB.out | apply below_alloc | apply pw_below_drewN | apply below_drew1) | exact HB.out)) hb); clear HO_4; clear HO_5; clear HB; have HO_4 := n0_; have HO_5 := n1_; have HB := n2_; clear n0_ n1_ n2_; (try clear hb); (try clear hb2); (try clear hk); (try clear hi)))
                          go_ret2
                          exact ⟨_, by first | rfl | (simp [errW_none, errW_some] <;> rfl) | (simp [*, errW_none, errW_some] <;> rfl), by (with_reducible repeat (first | apply Kd.R_alloc | apply Kd.R_drewN | apply Kd.R_drew)); exact Kd.R_mono HO_4.out (fun _ hk => trivial), by repeat (first | (with_reducible first | exact HB.out | apply below_alloc | apply pw_below_drewN | apply below_drew1) | exact HB.out)⟩
                      · replace c58 := Bool.eq_false_iff.mpr c58
                        subst c58
                        have H1 : (some (y195, false)) = some (r1, r2) := by rw [if_neg (show ¬ (false = true) by decide)] at H; exact H
                        clear H
                        have H := H1
                        clear H1
                        simp only [Option.some.injEq, Prod.mk.injEq] at H
                        obtain ⟨rfl, rfl⟩ := H
                        obtain ⟨Ao64, co64, eo64⟩ := Kd.R_slice HO_5.out
                        subst eo64
                        go_wp2_with (first | ((with_reducible refine gate_callee (f := 26) rfl ?_); refine goesL_ (some 144) rfl rfl Try.func26 (by kernel_rfl) rfl #[.slice Ao64 x5_3.length co64] rfl (by (try simp only [List.map_toArray, List.map_cons, List.map_nil]); first | done | rfl | (simp only [List.length_drop, List.length_take]; rfl)) ?_; (with_reducible refine (spec_Puny.calls k3 _ _ x5_3 t204 false _ ?side1 ?side2 A57.out).mono ?_); (case side1 => repeat (first | exact (Kd.R_reads' HO_5.out).2.2 | (with_reducible refine Kd.C_alloc ?_ _) | (with_reducible refine Kd.C_drewN ?_ _) | (with_reducible refine Kd.C_drew ?_))); (case side2 => exact (Kd.R_reads' HO_5.out).2.1); rintro e w65 ⟨rfl, hb⟩; refine ⟨_, rfl, ?_⟩; have n0_ := Aside0.mk (Kd.R_below (by (with_reducible repeat (first | apply Kd.R_alloc | apply Kd.R_drewN | apply Kd.R_drew)); exact HO_4.out) hb); have n1_ := Aside0.mk (Kd.R_below (by (with_reducible repeat (first | apply Kd.R_alloc | apply Kd.R_drewN | apply Kd.R_drew)); exact HO_5.out) hb); have n2_ := Aside0.mk (below_step (by repeat (first | (with_reducible first | exact HB.out | apply below_alloc | apply pw_below_drewN | apply below_drew1) | exact HB.out)) hb); clear HO_4; clear HO_5; clear HB; have HO_4 := n0_; have HO_5 := n1_; have HB := n2_; clear n0_ n1_ n2_; (try clear hb); (try clear hb2); (try clear hk); (try clear hi)))
                        go_ret2
                        exact ⟨_, by first | rfl | (simp [errW_none, errW_some] <;> rfl) | (simp [*, errW_none, errW_some] <;> rfl), by (with_reducible repeat (first | apply Kd.R_alloc | apply Kd.R_drewN | apply Kd.R_drew)); exact Kd.R_mono HO_4.out (fun _ hk => trivial), by repeat (first | (with_reducible first | exact HB.out | apply below_alloc | apply pw_below_drewN | apply below_drew1) | exact HB.out)⟩

end Go.Proofs.Ythhomopijhopfaa.GFnExactReadPuny
