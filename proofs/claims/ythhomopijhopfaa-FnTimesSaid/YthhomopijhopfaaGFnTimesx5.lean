-- This text was written by wip/gen.py, a program of this session; Lean checks it.
import Derived.Test.YthhomopijhopfaaGFnTimesx0
import Derived.Test.YthhomopijhopfaaGFnTimesx1
import Derived.Test.YthhomopijhopfaaGFnTimesx2
import Derived.Test.YthhomopijhopfaaGFnTimesx3
import Derived.Test.YthhomopijhopfaaGFnTimesx4
namespace Go.Proofs.Ythhomopijhopfaa.GFnTimes
open Go.RowKit Go.Proofs.YthhomopijhopfaaW.PrintWords Go.Proofs.YthhomopijhopfaaW.PrintLast Go.Proofs.YthhomopijhopfaaW.PrintMore
attribute [local go_sem] max2_int min2_int max_two min_two max_three min_three max_four min_four   -- for this text's walks alone
set_option linter.unusedVariables false
set_option linter.unusedSimpArgs false

/-! ### laws_FnTimes: function 3 -/
mutual
def laws_FnTimes.j0 : Nat → List Int → Int → Int → Int → Int → Int → Bool → Option (Bool)
  | 0, _, _, _, _, _, _, _ => none
  | k + 1, x0, x3, x4, x5, x6, x7, x38 => if x38 = true then (if x4 = 0 then (if x5 = 0 then (if x6 = 0 then (some (x7 == 0)) else (some false)) else (some false)) else (some false)) else ((impl_TimeOf.f k x4 x5 x6 x7).bind fun bt249 => ((impl_LongTime.f k x3).bind fun bt251 => ((impl_ReadTime.f k bt251.1).bind fun bt253 => (if bt249.2 = true then (if bt249.1 = x3 then (if bt251.2 = true then (if bt253.2 = true then (if bt253.1 = x3 then (laws_FnTimes.j1 k x0 x3 x4 bt251.1 ((bt251.1.size : Int) != 15)) else (laws_FnTimes.j1 k x0 x3 x4 bt251.1 true)) else (laws_FnTimes.j1 k x0 x3 x4 bt251.1 true)) else (laws_FnTimes.j1 k x0 x3 x4 bt251.1 true)) else (laws_FnTimes.j1 k x0 x3 x4 bt251.1 true)) else (laws_FnTimes.j1 k x0 x3 x4 bt251.1 true)))))
def laws_FnTimes.j1 : Nat → List Int → Int → Int → ByteArray → Bool → Option (Bool)
  | 0, _, _, _, _, _ => none
  | k + 1, x0, x3, x4, x10, x95 => if x95 = true then (some false) else ((impl_ShortTime.f k x3).bind fun bt255 => (if (bt255.2 != (decide (x4 < 2050))) = true then (some false) else (if bt255.2 = true then ((impl_ReadTime.f k bt255.1).bind fun bt257 => (if bt257.2 = true then (if bt257.1 = x3 then (laws_FnTimes.j2 k x0 x3 x10) else (some false)) else (some false))) else (laws_FnTimes.j2 k x0 x3 x10))))
def laws_FnTimes.j2 : Nat → List Int → Int → ByteArray → Option (Bool)
  | 0, _, _, _ => none
  | k + 1, x0, x3, x10 => (laws_at.f x0 0).bind fun t259 => ((laws_at.f x0 1).bind fun t260 => ((impl_LongTime.f k (wrap64 (x3 + (wrap64 (t259 * t260))))).bind fun bt261 => (if bt261.2 = true then (laws_FnTimes.j3 k x3 ((Op.bytesLess x10.toList bt261.1.toList) != (decide ((wrap64 (x3 + (wrap64 (t259 * t260)))) > x3)))) else (laws_FnTimes.j3 k x3 false))))
def laws_FnTimes.j3 : Nat → Int → Bool → Option (Bool)
  | 0, _, _ => none
  | k + 1, x3, x139 => if x139 = true then (some false) else ((impl_Span.f x3 x3).bind fun t263 => (if t263 = 0 then ((impl_Within.f x3 x3 x3).bind fun t264 => (if t264 = true then (if x3 = 4102444799 then (some true) else ((impl_Span.f x3 (wrap64 (x3 + 1))).bind fun t265 => (if t265 = 1 then ((impl_Within.f (wrap64 (x3 + 1)) x3 x3).bind fun t266 => (some (!t266))) else (some false)))) else (some false))) else (some false)))
end
def laws_FnTimes.f (k : Nat) (l0 : List Int) : Option (Bool) := (laws_big.f l0).bind fun t243 => (if t243 = true then (some true) else ((spec_DrawDayOf.f k l0).bind fun t244 => ((impl_DayOf.f k t244).bind fun bt245 => (if t244 < (-631152000) then (laws_FnTimes.j0 k l0 t244 bt245.1 bt245.2.1 bt245.2.2.1 bt245.2.2.2 true) else (laws_FnTimes.j0 k l0 t244 bt245.1 bt245.2.1 bt245.2.2.1 bt245.2.2.2 (decide (t244 > 4102444799)))))))
theorem laws_FnTimes.mono_l : ∀ k, (∀ y0 y1 y2 y3 y4 y5 y6, LeO (laws_FnTimes.j0 k y0 y1 y2 y3 y4 y5 y6) (laws_FnTimes.j0 (k + 1) y0 y1 y2 y3 y4 y5 y6)) ∧ (∀ y0 y1 y2 y3 y4, LeO (laws_FnTimes.j1 k y0 y1 y2 y3 y4) (laws_FnTimes.j1 (k + 1) y0 y1 y2 y3 y4)) ∧ (∀ y0 y1 y2, LeO (laws_FnTimes.j2 k y0 y1 y2) (laws_FnTimes.j2 (k + 1) y0 y1 y2)) ∧ (∀ y0 y1, LeO (laws_FnTimes.j3 k y0 y1) (laws_FnTimes.j3 (k + 1) y0 y1))
  | 0 => ⟨fun _ _ _ _ _ _ _ r h => by simp [laws_FnTimes.j0] at h, fun _ _ _ _ _ r h => by simp [laws_FnTimes.j1] at h, fun _ _ _ r h => by simp [laws_FnTimes.j2] at h, fun _ _ r h => by simp [laws_FnTimes.j3] at h⟩
  | k + 1 => by
    obtain ⟨ih0, ih1, ih2, ih3⟩ := laws_FnTimes.mono_l k
    refine ⟨?_, ?_, ?_, ?_⟩
    · intro y0 y1 y2 y3 y4 y5 y6
      unfold laws_FnTimes.j0
      repeat' first
      | (with_reducible exact ih0 _ _ _ _ _ _ _)
      | (with_reducible exact ih1 _ _ _ _ _)
      | (with_reducible exact ih2 _ _ _)
      | (with_reducible exact ih3 _ _)
      | (with_reducible exact impl_DayOf.mono _ _)
      | (with_reducible exact impl_LongTime.mono _ _)
      | (with_reducible exact impl_ReadTime.mono _ _)
      | (with_reducible exact impl_ShortTime.mono _ _)
      | (with_reducible exact impl_TimeOf.mono _ _ _ _ _)
      | (with_reducible exact spec_DrawDayOf.mono _ _)
      | (with_reducible exact LeO.refl _)
      | (with_reducible exact LeO.none _)
      | (with_reducible refine LeO.ite ?_ ?_)
      | (with_reducible refine LeO.bind ?_ (fun _ => ?_))
      | exact ih0 _ _ _ _ _ _ _
      | exact ih1 _ _ _ _ _
      | exact ih2 _ _ _
      | exact ih3 _ _
      | exact impl_DayOf.mono _ _
      | exact impl_LongTime.mono _ _
      | exact impl_ReadTime.mono _ _
      | exact impl_ShortTime.mono _ _
      | exact impl_TimeOf.mono _ _ _ _ _
      | exact spec_DrawDayOf.mono _ _
      | exact LeO.none _
      | refine LeO.ite ?_ ?_
      | refine LeO.bind ?_ (fun _ => ?_)
    · intro y0 y1 y2 y3 y4
      unfold laws_FnTimes.j1
      repeat' first
      | (with_reducible exact ih0 _ _ _ _ _ _ _)
      | (with_reducible exact ih1 _ _ _ _ _)
      | (with_reducible exact ih2 _ _ _)
      | (with_reducible exact ih3 _ _)
      | (with_reducible exact impl_DayOf.mono _ _)
      | (with_reducible exact impl_LongTime.mono _ _)
      | (with_reducible exact impl_ReadTime.mono _ _)
      | (with_reducible exact impl_ShortTime.mono _ _)
      | (with_reducible exact impl_TimeOf.mono _ _ _ _ _)
      | (with_reducible exact spec_DrawDayOf.mono _ _)
      | (with_reducible exact LeO.refl _)
      | (with_reducible exact LeO.none _)
      | (with_reducible refine LeO.ite ?_ ?_)
      | (with_reducible refine LeO.bind ?_ (fun _ => ?_))
      | exact ih0 _ _ _ _ _ _ _
      | exact ih1 _ _ _ _ _
      | exact ih2 _ _ _
      | exact ih3 _ _
      | exact impl_DayOf.mono _ _
      | exact impl_LongTime.mono _ _
      | exact impl_ReadTime.mono _ _
      | exact impl_ShortTime.mono _ _
      | exact impl_TimeOf.mono _ _ _ _ _
      | exact spec_DrawDayOf.mono _ _
      | exact LeO.none _
      | refine LeO.ite ?_ ?_
      | refine LeO.bind ?_ (fun _ => ?_)
    · intro y0 y1 y2
      unfold laws_FnTimes.j2
      repeat' first
      | (with_reducible exact ih0 _ _ _ _ _ _ _)
      | (with_reducible exact ih1 _ _ _ _ _)
      | (with_reducible exact ih2 _ _ _)
      | (with_reducible exact ih3 _ _)
      | (with_reducible exact impl_DayOf.mono _ _)
      | (with_reducible exact impl_LongTime.mono _ _)
      | (with_reducible exact impl_ReadTime.mono _ _)
      | (with_reducible exact impl_ShortTime.mono _ _)
      | (with_reducible exact impl_TimeOf.mono _ _ _ _ _)
      | (with_reducible exact spec_DrawDayOf.mono _ _)
      | (with_reducible exact LeO.refl _)
      | (with_reducible exact LeO.none _)
      | (with_reducible refine LeO.ite ?_ ?_)
      | (with_reducible refine LeO.bind ?_ (fun _ => ?_))
      | exact ih0 _ _ _ _ _ _ _
      | exact ih1 _ _ _ _ _
      | exact ih2 _ _ _
      | exact ih3 _ _
      | exact impl_DayOf.mono _ _
      | exact impl_LongTime.mono _ _
      | exact impl_ReadTime.mono _ _
      | exact impl_ShortTime.mono _ _
      | exact impl_TimeOf.mono _ _ _ _ _
      | exact spec_DrawDayOf.mono _ _
      | exact LeO.none _
      | refine LeO.ite ?_ ?_
      | refine LeO.bind ?_ (fun _ => ?_)
    · intro y0 y1
      unfold laws_FnTimes.j3
      repeat' first
      | (with_reducible exact ih0 _ _ _ _ _ _ _)
      | (with_reducible exact ih1 _ _ _ _ _)
      | (with_reducible exact ih2 _ _ _)
      | (with_reducible exact ih3 _ _)
      | (with_reducible exact impl_DayOf.mono _ _)
      | (with_reducible exact impl_LongTime.mono _ _)
      | (with_reducible exact impl_ReadTime.mono _ _)
      | (with_reducible exact impl_ShortTime.mono _ _)
      | (with_reducible exact impl_TimeOf.mono _ _ _ _ _)
      | (with_reducible exact spec_DrawDayOf.mono _ _)
      | (with_reducible exact LeO.refl _)
      | (with_reducible exact LeO.none _)
      | (with_reducible refine LeO.ite ?_ ?_)
      | (with_reducible refine LeO.bind ?_ (fun _ => ?_))
      | exact ih0 _ _ _ _ _ _ _
      | exact ih1 _ _ _ _ _
      | exact ih2 _ _ _
      | exact ih3 _ _
      | exact impl_DayOf.mono _ _
      | exact impl_LongTime.mono _ _
      | exact impl_ReadTime.mono _ _
      | exact impl_ShortTime.mono _ _
      | exact impl_TimeOf.mono _ _ _ _ _
      | exact spec_DrawDayOf.mono _ _
      | exact LeO.none _
      | refine LeO.ite ?_ ?_
      | refine LeO.bind ?_ (fun _ => ?_)
theorem laws_FnTimes.mono : ∀ a0 k, LeO (laws_FnTimes.f k a0) (laws_FnTimes.f (k + 1) a0) := by
  intro a0 k
  obtain ⟨ih0, ih1, ih2, ih3⟩ := laws_FnTimes.mono_l k
  unfold laws_FnTimes.f
  repeat' first
      | (with_reducible exact ih0 _ _ _ _ _ _ _)
      | (with_reducible exact ih1 _ _ _ _ _)
      | (with_reducible exact ih2 _ _ _)
      | (with_reducible exact ih3 _ _)
      | (with_reducible exact impl_DayOf.mono _ _)
      | (with_reducible exact impl_LongTime.mono _ _)
      | (with_reducible exact impl_ReadTime.mono _ _)
      | (with_reducible exact impl_ShortTime.mono _ _)
      | (with_reducible exact impl_TimeOf.mono _ _ _ _ _)
      | (with_reducible exact spec_DrawDayOf.mono _ _)
      | (with_reducible exact LeO.refl _)
      | (with_reducible exact LeO.none _)
      | (with_reducible refine LeO.ite ?_ ?_)
      | (with_reducible refine LeO.bind ?_ (fun _ => ?_))
      | exact ih0 _ _ _ _ _ _ _
      | exact ih1 _ _ _ _ _
      | exact ih2 _ _ _
      | exact ih3 _ _
      | exact impl_DayOf.mono _ _
      | exact impl_LongTime.mono _ _
      | exact impl_ReadTime.mono _ _
      | exact impl_ShortTime.mono _ _
      | exact impl_TimeOf.mono _ _ _ _ _
      | exact spec_DrawDayOf.mono _ _
      | exact LeO.none _
      | refine LeO.ite ?_ ?_
      | refine LeO.bind ?_ (fun _ => ?_)
set_option maxHeartbeats 8000000 in
set_option maxRecDepth 100000 in
theorem laws_FnTimes.calls (k : Nat) (A0 : Option Addr) (c0 : Nat) (l0 : List Int) (r : Bool) (w : World) (hr0 : Kd.C (Kd.int .u8) w A0 l0.length l0) (hc0 : l0.length ≤ c0) (h : laws_FnTimes.f k l0 = some r) :
    Calls Try.prog 3 #[.slice A0 l0.length c0] w fun e w' => e = .returned (.bool r) ∧ Below w.heap.size w w' := by
  have HR0 := Aside0.mk hr0
  have HC0 := Aside0.mk hc0
  clear hr0 hc0
  have HB := Aside0.mk (Below.refl w.heap.size w)
  have H : ((laws_big.f l0).bind fun t243 => (if t243 = true then (some true) else ((spec_DrawDayOf.f k l0).bind fun t244 => ((impl_DayOf.f k t244).bind fun bt245 => (if t244 < (-631152000) then (laws_FnTimes.j0 k l0 t244 bt245.1 bt245.2.1 bt245.2.2.1 bt245.2.2.2 true) else (laws_FnTimes.j0 k l0 t244 bt245.1 bt245.2.1 bt245.2.2.1 bt245.2.2.2 (decide (t244 > 4102444799)))))))) = some r := h
  clear h
  replace H := Option.bind_eq_some_iff.mp H
  obtain ⟨t243, A20, H⟩ := H
  replace H : (if t243 = true then (some true) else ((spec_DrawDayOf.f k l0).bind fun t244 => ((impl_DayOf.f k t244).bind fun bt245 => (if t244 < (-631152000) then (laws_FnTimes.j0 k l0 t244 bt245.1 bt245.2.1 bt245.2.2.1 bt245.2.2.2 true) else (laws_FnTimes.j0 k l0 t244 bt245.1 bt245.2.1 bt245.2.2.1 bt245.2.2.2 (decide (t244 > 4102444799))))))) = some r := H
  have A2 := Aside0.mk A20
  clear A20
  by_cases c3 : t243 = true
  · subst c3
    have H1 : (some true) = some r := by rw [if_pos rfl] at H; exact H
    clear H
    have H := H1
    clear H1
    obtain rfl := Option.some.inj H
    go_enter Try.func3, Try.ntmps3
    go_wp2_with (first | ((with_reducible refine gate_callee (f := 12) rfl ?_); refine goesL_ (some 23) rfl rfl Try.func12 (by kernel_rfl) rfl #[.slice A0 l0.length c0] rfl (by (try simp only [List.map_toArray, List.map_cons, List.map_nil]); first | done | rfl | (simp only [List.length_drop, List.length_take]; rfl)) ?_; (with_reducible refine (laws_big.calls _ _ l0 true _ ?side1 ?side2 A2.out).mono ?_); (case side1 => repeat (first | exact HR0.out | (with_reducible refine Kd.C_alloc ?_ _) | (with_reducible refine Kd.C_drewN ?_ _) | (with_reducible refine Kd.C_drew ?_))); (case side2 => exact HC0.out); rintro e w' ⟨rfl, ⟨nd, rfl⟩⟩; refine ⟨_, rfl, ?_⟩))
    go_ret
    exact ⟨by first | rfl | (simp [errW_none, errW_some] <;> rfl) | (simp [*, errW_none, errW_some] <;> rfl), by repeat (first | (with_reducible first | exact HB.out | apply below_alloc | apply pw_below_drewN | apply below_drew1) | exact HB.out)⟩
  · replace c3 := Bool.eq_false_iff.mpr c3
    subst c3
    have H1 : ((spec_DrawDayOf.f k l0).bind fun t244 => ((impl_DayOf.f k t244).bind fun bt245 => (if t244 < (-631152000) then (laws_FnTimes.j0 k l0 t244 bt245.1 bt245.2.1 bt245.2.2.1 bt245.2.2.2 true) else (laws_FnTimes.j0 k l0 t244 bt245.1 bt245.2.1 bt245.2.2.1 bt245.2.2.2 (decide (t244 > 4102444799)))))) = some r := by rw [if_neg (show ¬ (false = true) by decide)] at H; exact H
    clear H
    have H := H1
    clear H1
    replace H := Option.bind_eq_some_iff.mp H
    obtain ⟨t244, A40, H⟩ := H
    replace H : ((impl_DayOf.f k t244).bind fun bt245 => (if t244 < (-631152000) then (laws_FnTimes.j0 k l0 t244 bt245.1 bt245.2.1 bt245.2.2.1 bt245.2.2.2 true) else (laws_FnTimes.j0 k l0 t244 bt245.1 bt245.2.1 bt245.2.2.1 bt245.2.2.2 (decide (t244 > 4102444799))))) = some r := H
    have A4 := Aside0.mk A40
    clear A40
    replace H := Option.bind_eq_some_iff.mp H
    obtain ⟨⟨t245, t246, t247, t248⟩, A50, H⟩ := H
    replace H : (if t244 < (-631152000) then (laws_FnTimes.j0 k l0 t244 t245 t246 t247 t248 true) else (laws_FnTimes.j0 k l0 t244 t245 t246 t247 t248 (decide (t244 > 4102444799)))) = some r := H
    have A5 := Aside0.mk A50
    clear A50
    have HC6 := Aside0.mk H
    clear H
    go_enter Try.func3, Try.ntmps3
    go_upto_region 5 with (first | ((with_reducible refine gate_callee (f := 12) rfl ?_); refine goesL_ (some 23) rfl rfl Try.func12 (by kernel_rfl) rfl #[.slice A0 l0.length c0] rfl (by (try simp only [List.map_toArray, List.map_cons, List.map_nil]); first | done | rfl | (simp only [List.length_drop, List.length_take]; rfl)) ?_; (with_reducible refine (laws_big.calls _ _ l0 false _ ?side1 ?side2 A2.out).mono ?_); (case side1 => repeat (first | exact HR0.out | (with_reducible refine Kd.C_alloc ?_ _) | (with_reducible refine Kd.C_drewN ?_ _) | (with_reducible refine Kd.C_drew ?_))); (case side2 => exact HC0.out); rintro e w' ⟨rfl, ⟨nd, rfl⟩⟩; refine ⟨_, rfl, ?_⟩) | ((with_reducible refine gate_callee (f := 13) rfl ?_); refine goesL_ (some 25) rfl rfl Try.func13 (by kernel_rfl) rfl #[.slice A0 l0.length c0] rfl (by (try simp only [List.map_toArray, List.map_cons, List.map_nil]); first | done | rfl | (simp only [List.length_drop, List.length_take]; rfl)) ?_; (with_reducible refine (spec_DrawDayOf.calls k _ _ l0 t244 _ ?side1 ?side2 A4.out).mono ?_); (case side1 => repeat (first | exact HR0.out | (with_reducible refine Kd.C_alloc ?_ _) | (with_reducible refine Kd.C_drewN ?_ _) | (with_reducible refine Kd.C_drew ?_))); (case side2 => exact HC0.out); rintro e w7 ⟨rfl, hb⟩; refine ⟨_, rfl, ?_⟩; have n0_ := Aside0.mk (below_step (by repeat (first | (with_reducible first | exact HB.out | apply below_alloc | apply pw_below_drewN | apply below_drew1) | exact HB.out)) hb); clear HB; have HB := n0_; clear n0_; (try clear hb); (try clear hb2); (try clear hk); (try clear hi)) | ((with_reducible refine gate_callee (f := 14) rfl ?_); refine goesL_ (some 28) rfl rfl Try.func14 (by kernel_rfl) rfl #[.int .i64 t244] rfl (by (try simp only [List.map_toArray, List.map_cons, List.map_nil]); first | done | rfl | (simp only [List.length_drop, List.length_take]; rfl)) ?_; (with_reducible refine (impl_DayOf.calls k t244 t245 t246 t247 t248 _ A5.out).mono ?_); rintro e w' ⟨rfl, ⟨nd, rfl⟩⟩; refine ⟨_, rfl, ?_⟩))
    (try simp only [Act.put, List.setIfInBounds_toArray, List.set_cons_zero, List.set_cons_succ])
    go_cut [38] (fun v38 wc => ∃ (kq : Nat) (x38_5 : Bool), v38 = .bool x38_5 ∧ Aside0 (laws_FnTimes.j0 kq l0 t244 t245 t246 t247 t248 x38_5 = some r) ∧ Aside0 (kq ≤ k) ∧ Aside0 (Below w.heap.size w wc))
    case first =>
      have H := HC6.out
      clear HC6
      by_cases c8 : t244 < (-631152000)
      · rw [if_pos c8] at H
        have c8b0 : decide (t244 < (-631152000)) = true := decide_eq_true c8
        clear c8
        (first | rw [c8b0] | (simp only [i64_w, i32_w]; rw [c8b0]) | skip)
        have H' := Aside0.mk H
        clear H
        go_wp2
        go_meet
        case rel => exact ⟨_, (true), (by first | rfl | (simp; done) | (simp [*]; done)), H', ⟨by first | omega | exact Nat.le_refl _⟩, ⟨by repeat (first | (with_reducible first | exact HB.out | apply below_alloc | apply pw_below_drewN | apply below_drew1) | exact HB.out)⟩⟩
      · rw [if_neg c8] at H
        have c8b0 : decide (t244 < (-631152000)) = false := decide_eq_false c8
        clear c8
        (first | rw [c8b0] | (simp only [i64_w, i32_w]; rw [c8b0]) | skip)
        have H' := Aside0.mk H
        clear H
        go_wp2
        go_meet
        case rel => exact ⟨_, (decide (t244 > 4102444799)), (by first | rfl | (simp; done) | (simp [*]; done)), H', ⟨by first | omega | exact Nat.le_refl _⟩, ⟨by repeat (first | (with_reducible first | exact HB.out | apply below_alloc | apply pw_below_drewN | apply below_drew1) | exact HB.out)⟩⟩
    case rest =>
      clear HC6
      try clear c1
      try clear p2
      try clear c3
      try clear c8
      try clear c8b0
      obtain ⟨kq, x38_5, rfl, HA, HJ5, HB⟩ := hcut
      cases kq with
      | zero => exact absurd HA.out (by simp [laws_FnTimes.j0])
      | succ kj5 =>
        have H := HA.out
        clear HA
        simp only [laws_FnTimes.j0] at H
        by_cases c9 : x38_5 = true
        · subst c9
          have H1 : (if t245 = 0 then (if t246 = 0 then (if t247 = 0 then (some (t248 == 0)) else (some false)) else (some false)) else (some false)) = some r := by rw [if_pos rfl] at H; exact H
          clear H
          have H := H1
          clear H1
          by_cases c10 : t245 = 0
          · rw [if_pos c10] at H
            have c10b0 : (t245 == 0) = true := beq_iff_eq.mpr c10
            have c10b1 : (t245 != 0) = false := bne_eq_false_iff_eq.mpr c10
            clear c10
            by_cases c11 : t246 = 0
            · rw [if_pos c11] at H
              have c11b0 : (t246 == 0) = true := beq_iff_eq.mpr c11
              have c11b1 : (t246 != 0) = false := bne_eq_false_iff_eq.mpr c11
              clear c11
              by_cases c12 : t247 = 0
              · rw [if_pos c12] at H
                have c12b0 : (t247 == 0) = true := beq_iff_eq.mpr c12
                have c12b1 : (t247 != 0) = false := bne_eq_false_iff_eq.mpr c12
                clear c12
                obtain rfl := Option.some.inj H
                go_wp2
                go_ret
                exact ⟨by first | rfl | (simp [errW_none, errW_some] <;> rfl) | (simp [*, errW_none, errW_some] <;> rfl), by repeat (first | (with_reducible first | exact HB.out | apply below_alloc | apply pw_below_drewN | apply below_drew1) | exact HB.out)⟩
              · rw [if_neg c12] at H
                have c12b0 : (t247 == 0) = false := beq_eq_false_iff_ne.mpr c12
                have c12b1 : (t247 != 0) = true := bne_iff_ne.mpr c12
                obtain rfl := Option.some.inj H
                go_wp2
                go_ret
                exact ⟨by first | rfl | (simp [errW_none, errW_some] <;> rfl) | (simp [*, errW_none, errW_some] <;> rfl), by repeat (first | (with_reducible first | exact HB.out | apply below_alloc | apply pw_below_drewN | apply below_drew1) | exact HB.out)⟩
            · rw [if_neg c11] at H
              have c11b0 : (t246 == 0) = false := beq_eq_false_iff_ne.mpr c11
              have c11b1 : (t246 != 0) = true := bne_iff_ne.mpr c11
              obtain rfl := Option.some.inj H
              go_wp2
              go_ret
              exact ⟨by first | rfl | (simp [errW_none, errW_some] <;> rfl) | (simp [*, errW_none, errW_some] <;> rfl), by repeat (first | (with_reducible first | exact HB.out | apply below_alloc | apply pw_below_drewN | apply below_drew1) | exact HB.out)⟩
          · rw [if_neg c10] at H
            have c10b0 : (t245 == 0) = false := beq_eq_false_iff_ne.mpr c10
            have c10b1 : (t245 != 0) = true := bne_iff_ne.mpr c10
            obtain rfl := Option.some.inj H
            go_wp2
            go_ret
            exact ⟨by first | rfl | (simp [errW_none, errW_some] <;> rfl) | (simp [*, errW_none, errW_some] <;> rfl), by repeat (first | (with_reducible first | exact HB.out | apply below_alloc | apply pw_below_drewN | apply below_drew1) | exact HB.out)⟩
        · replace c9 := Bool.eq_false_iff.mpr c9
          subst c9
          have H1 : ((impl_TimeOf.f kj5 t245 t246 t247 t248).bind fun bt249 => ((impl_LongTime.f kj5 t244).bind fun bt251 => ((impl_ReadTime.f kj5 bt251.1).bind fun bt253 => (if bt249.2 = true then (if bt249.1 = t244 then (if bt251.2 = true then (if bt253.2 = true then (if bt253.1 = t244 then (laws_FnTimes.j1 kj5 l0 t244 t245 bt251.1 ((bt251.1.size : Int) != 15)) else (laws_FnTimes.j1 kj5 l0 t244 t245 bt251.1 true)) else (laws_FnTimes.j1 kj5 l0 t244 t245 bt251.1 true)) else (laws_FnTimes.j1 kj5 l0 t244 t245 bt251.1 true)) else (laws_FnTimes.j1 kj5 l0 t244 t245 bt251.1 true)) else (laws_FnTimes.j1 kj5 l0 t244 t245 bt251.1 true))))) = some r := by rw [if_neg (show ¬ (false = true) by decide)] at H; exact H
          clear H
          have H := H1
          clear H1
          replace H := Option.bind_eq_some_iff.mp H
          obtain ⟨⟨t249, t250⟩, A130, H⟩ := H
          replace H : ((impl_LongTime.f kj5 t244).bind fun bt251 => ((impl_ReadTime.f kj5 bt251.1).bind fun bt253 => (if t250 = true then (if t249 = t244 then (if bt251.2 = true then (if bt253.2 = true then (if bt253.1 = t244 then (laws_FnTimes.j1 kj5 l0 t244 t245 bt251.1 ((bt251.1.size : Int) != 15)) else (laws_FnTimes.j1 kj5 l0 t244 t245 bt251.1 true)) else (laws_FnTimes.j1 kj5 l0 t244 t245 bt251.1 true)) else (laws_FnTimes.j1 kj5 l0 t244 t245 bt251.1 true)) else (laws_FnTimes.j1 kj5 l0 t244 t245 bt251.1 true)) else (laws_FnTimes.j1 kj5 l0 t244 t245 bt251.1 true)))) = some r := H
          have A13 := Aside0.mk A130
          clear A130
          replace H := Option.bind_eq_some_iff.mp H
          obtain ⟨⟨t251, t252⟩, A140, H⟩ := H
          replace H : ((impl_ReadTime.f kj5 t251).bind fun bt253 => (if t250 = true then (if t249 = t244 then (if t252 = true then (if bt253.2 = true then (if bt253.1 = t244 then (laws_FnTimes.j1 kj5 l0 t244 t245 t251 ((t251.size : Int) != 15)) else (laws_FnTimes.j1 kj5 l0 t244 t245 t251 true)) else (laws_FnTimes.j1 kj5 l0 t244 t245 t251 true)) else (laws_FnTimes.j1 kj5 l0 t244 t245 t251 true)) else (laws_FnTimes.j1 kj5 l0 t244 t245 t251 true)) else (laws_FnTimes.j1 kj5 l0 t244 t245 t251 true))) = some r := H
          have A14 := Aside0.mk A140
          clear A140
          replace H := Option.bind_eq_some_iff.mp H
          obtain ⟨⟨t253, t254⟩, A150, H⟩ := H
          replace H : (if t250 = true then (if t249 = t244 then (if t252 = true then (if t254 = true then (if t253 = t244 then (laws_FnTimes.j1 kj5 l0 t244 t245 t251 ((t251.size : Int) != 15)) else (laws_FnTimes.j1 kj5 l0 t244 t245 t251 true)) else (laws_FnTimes.j1 kj5 l0 t244 t245 t251 true)) else (laws_FnTimes.j1 kj5 l0 t244 t245 t251 true)) else (laws_FnTimes.j1 kj5 l0 t244 t245 t251 true)) else (laws_FnTimes.j1 kj5 l0 t244 t245 t251 true)) = some r := H
          have A15 := Aside0.mk A150
          clear A150
          have HC16 := Aside0.mk H
          clear H
          go_upto_region 10 with (first | ((with_reducible refine gate_callee (f := 15) rfl ?_); refine goesL_ (some 58) rfl rfl Try.func15 (by kernel_rfl) rfl #[.int .i64 t245, .int .i64 t246, .int .i64 t247, .int .i64 t248] rfl (by (try simp only [List.map_toArray, List.map_cons, List.map_nil]); first | done | rfl | (simp only [List.length_drop, List.length_take]; rfl)) ?_; (with_reducible refine (impl_TimeOf.calls kj5 t245 t246 t247 t248 t249 t250 _ A13.out).mono ?_); rintro e w' ⟨rfl, ⟨nd, rfl⟩⟩; refine ⟨_, rfl, ?_⟩) | ((with_reducible refine gate_callee (f := 16) rfl ?_); refine goesL_ (some 63) rfl rfl Try.func16 (by kernel_rfl) rfl #[.int .i64 t244] rfl (by (try simp only [List.map_toArray, List.map_cons, List.map_nil]); first | done | rfl | (simp only [List.length_drop, List.length_take]; rfl)) ?_; (with_reducible refine (impl_LongTime.calls kj5 t244 t251 t252 _ A14.out).mono ?_); rintro e w17 ⟨rfl, hb⟩; refine ⟨_, rfl, ?_⟩; have n0_ := Aside0.mk (below_step (by repeat (first | (with_reducible first | exact HB.out | apply below_alloc | apply pw_below_drewN | apply below_drew1) | exact HB.out)) hb); clear HB; have HB := n0_; clear n0_; (try clear hb); (try clear hb2); (try clear hk); (try clear hi)) | ((with_reducible refine gate_callee (f := 17) rfl ?_); refine goesL_ (some 68) rfl rfl Try.func17 (by kernel_rfl) rfl #[.string t251] rfl (by (try simp only [List.map_toArray, List.map_cons, List.map_nil]); first | done | rfl | (simp only [List.length_drop, List.length_take]; rfl)) ?_; (with_reducible refine (impl_ReadTime.calls kj5 t251 t253 t254 _ A15.out).mono ?_); rintro e w18 ⟨rfl, hb⟩; refine ⟨_, rfl, ?_⟩; have n0_ := Aside0.mk (below_step (by repeat (first | (with_reducible first | exact HB.out | apply below_alloc | apply pw_below_drewN | apply below_drew1) | exact HB.out)) hb); clear HB; have HB := n0_; clear n0_; (try clear hb); (try clear hb2); (try clear hk); (try clear hi)))
          (try simp only [Act.put, List.setIfInBounds_toArray, List.set_cons_zero, List.set_cons_succ])
          go_cut [95] (fun v95 wc => ∃ (kq : Nat) (x95_15 : Bool), v95 = .bool x95_15 ∧ Aside0 (laws_FnTimes.j1 kq l0 t244 t245 t251 x95_15 = some r) ∧ Aside0 (kq ≤ kj5) ∧ Aside0 (Below w.heap.size w wc))
          case first =>
            have H := HC16.out
            clear HC16
            by_cases c19 : t250 = true
            · subst c19
              have H1 : (if t249 = t244 then (if t252 = true then (if t254 = true then (if t253 = t244 then (laws_FnTimes.j1 kj5 l0 t244 t245 t251 ((t251.size : Int) != 15)) else (laws_FnTimes.j1 kj5 l0 t244 t245 t251 true)) else (laws_FnTimes.j1 kj5 l0 t244 t245 t251 true)) else (laws_FnTimes.j1 kj5 l0 t244 t245 t251 true)) else (laws_FnTimes.j1 kj5 l0 t244 t245 t251 true)) = some r := by rw [if_pos rfl] at H; exact H
              clear H
              have H := H1
              clear H1
              by_cases c20 : t249 = t244
              · rw [if_pos c20] at H
                have c20b0 : (t249 == t244) = true := beq_iff_eq.mpr c20
                have c20b1 : (t249 != t244) = false := bne_eq_false_iff_eq.mpr c20
                clear c20
                (first | rw [c20b0] | (simp only [i64_w, i32_w]; rw [c20b0]) | skip)
                by_cases c21 : t252 = true
                · subst c21
                  have H1 : (if t254 = true then (if t253 = t244 then (laws_FnTimes.j1 kj5 l0 t244 t245 t251 ((t251.size : Int) != 15)) else (laws_FnTimes.j1 kj5 l0 t244 t245 t251 true)) else (laws_FnTimes.j1 kj5 l0 t244 t245 t251 true)) = some r := by rw [if_pos rfl] at H; exact H
                  clear H
                  have H := H1
                  clear H1
                  by_cases c22 : t254 = true
                  · subst c22
                    have H1 : (if t253 = t244 then (laws_FnTimes.j1 kj5 l0 t244 t245 t251 ((t251.size : Int) != 15)) else (laws_FnTimes.j1 kj5 l0 t244 t245 t251 true)) = some r := by rw [if_pos rfl] at H; exact H
                    clear H
                    have H := H1
                    clear H1
                    by_cases c23 : t253 = t244
                    · rw [if_pos c23] at H
                      have c23b0 : (t253 == t244) = true := beq_iff_eq.mpr c23
                      have c23b1 : (t253 != t244) = false := bne_eq_false_iff_eq.mpr c23
                      clear c23
                      have H' := Aside0.mk H
                      clear H
                      go_wp2
                      go_meet
                      case rel => exact ⟨_, (((t251.size : Int) != 15)), (by first | rfl | (simp; done) | (simp [*]; done)), H', ⟨by have := HJ5.out; first | omega | exact Nat.le_refl _⟩, ⟨by repeat (first | (with_reducible first | exact HB.out | apply below_alloc | apply pw_below_drewN | apply below_drew1) | exact HB.out)⟩⟩
                    · rw [if_neg c23] at H
                      have c23b0 : (t253 == t244) = false := beq_eq_false_iff_ne.mpr c23
                      have c23b1 : (t253 != t244) = true := bne_iff_ne.mpr c23
                      have H' := Aside0.mk H
                      clear H
                      go_wp2
                      go_meet
                      case rel => exact ⟨_, (true), (by first | rfl | (simp; done) | (simp [*]; done)), H', ⟨by have := HJ5.out; first | omega | exact Nat.le_refl _⟩, ⟨by repeat (first | (with_reducible first | exact HB.out | apply below_alloc | apply pw_below_drewN | apply below_drew1) | exact HB.out)⟩⟩
                  · replace c22 := Bool.eq_false_iff.mpr c22
                    subst c22
                    have H1 : (laws_FnTimes.j1 kj5 l0 t244 t245 t251 true) = some r := by rw [if_neg (show ¬ (false = true) by decide)] at H; exact H
                    clear H
                    have H := H1
                    clear H1
                    have H' := Aside0.mk H
                    clear H
                    go_wp2
                    go_meet
                    case rel => exact ⟨_, (true), (by first | rfl | (simp; done) | (simp [*]; done)), H', ⟨by have := HJ5.out; first | omega | exact Nat.le_refl _⟩, ⟨by repeat (first | (with_reducible first | exact HB.out | apply below_alloc | apply pw_below_drewN | apply below_drew1) | exact HB.out)⟩⟩
                · replace c21 := Bool.eq_false_iff.mpr c21
                  subst c21
                  have H1 : (laws_FnTimes.j1 kj5 l0 t244 t245 t251 true) = some r := by rw [if_neg (show ¬ (false = true) by decide)] at H; exact H
                  clear H
                  have H := H1
                  clear H1
                  have H' := Aside0.mk H
                  clear H
                  go_wp2
                  go_meet
                  case rel => exact ⟨_, (true), (by first | rfl | (simp; done) | (simp [*]; done)), H', ⟨by have := HJ5.out; first | omega | exact Nat.le_refl _⟩, ⟨by repeat (first | (with_reducible first | exact HB.out | apply below_alloc | apply pw_below_drewN | apply below_drew1) | exact HB.out)⟩⟩
              · rw [if_neg c20] at H
                have c20b0 : (t249 == t244) = false := beq_eq_false_iff_ne.mpr c20
                have c20b1 : (t249 != t244) = true := bne_iff_ne.mpr c20
                (first | rw [c20b0] | (simp only [i64_w, i32_w]; rw [c20b0]) | skip)
                have H' := Aside0.mk H
                clear H
                go_wp2
                go_meet
                case rel => exact ⟨_, (true), (by first | rfl | (simp; done) | (simp [*]; done)), H', ⟨by have := HJ5.out; first | omega | exact Nat.le_refl _⟩, ⟨by repeat (first | (with_reducible first | exact HB.out | apply below_alloc | apply pw_below_drewN | apply below_drew1) | exact HB.out)⟩⟩
            · replace c19 := Bool.eq_false_iff.mpr c19
              subst c19
              have H1 : (laws_FnTimes.j1 kj5 l0 t244 t245 t251 true) = some r := by rw [if_neg (show ¬ (false = true) by decide)] at H; exact H
              clear H
              have H := H1
              clear H1
              have H' := Aside0.mk H
              clear H
              go_wp2
              go_meet
              case rel => exact ⟨_, (true), (by first | rfl | (simp; done) | (simp [*]; done)), H', ⟨by have := HJ5.out; first | omega | exact Nat.le_refl _⟩, ⟨by repeat (first | (with_reducible first | exact HB.out | apply below_alloc | apply pw_below_drewN | apply below_drew1) | exact HB.out)⟩⟩
          case rest =>
            clear HC16
            try clear c1
            try clear c2
            try clear p2
            try clear c3
            try clear c8
            try clear c8b0
            try clear c9
            try clear c10
            try clear c10b0
            try clear c10b1
            try clear c11
            try clear c11b0
            try clear c11b1
            try clear c12
            try clear c12b0
            try clear c12b1
            try clear c13
            try clear c14
            try clear c15
            try clear c16
            try clear c17
            try clear c19
            try clear c20
            try clear c20b0
            try clear c20b1
            try clear c21
            try clear c22
            try clear c23
            try clear c23b0
            try clear c23b1
            try clear p2
            obtain ⟨kq, x95_15, rfl, HA, HJ15, HB⟩ := hcut
            cases kq with
            | zero => exact absurd HA.out (by simp [laws_FnTimes.j1])
            | succ kj15 =>
              have H := HA.out
              clear HA
              simp only [laws_FnTimes.j1] at H
              by_cases c24 : x95_15 = true
              · subst c24
                have H1 : (some false) = some r := by rw [if_pos rfl] at H; exact H
                clear H
                have H := H1
                clear H1
                obtain rfl := Option.some.inj H
                go_wp2
                go_ret
                exact ⟨by first | rfl | (simp [errW_none, errW_some] <;> rfl) | (simp [*, errW_none, errW_some] <;> rfl), by repeat (first | (with_reducible first | exact HB.out | apply below_alloc | apply pw_below_drewN | apply below_drew1) | exact HB.out)⟩
              · replace c24 := Bool.eq_false_iff.mpr c24
                subst c24
                have H1 : ((impl_ShortTime.f kj15 t244).bind fun bt255 => (if (bt255.2 != (decide (t245 < 2050))) = true then (some false) else (if bt255.2 = true then ((impl_ReadTime.f kj15 bt255.1).bind fun bt257 => (if bt257.2 = true then (if bt257.1 = t244 then (laws_FnTimes.j2 kj15 l0 t244 t251) else (some false)) else (some false))) else (laws_FnTimes.j2 kj15 l0 t244 t251)))) = some r := by rw [if_neg (show ¬ (false = true) by decide)] at H; exact H
                clear H
                have H := H1
                clear H1
                replace H := Option.bind_eq_some_iff.mp H
                obtain ⟨⟨t255, t256⟩, A250, H⟩ := H
                replace H : (if (t256 != (decide (t245 < 2050))) = true then (some false) else (if t256 = true then ((impl_ReadTime.f kj15 t255).bind fun bt257 => (if bt257.2 = true then (if bt257.1 = t244 then (laws_FnTimes.j2 kj15 l0 t244 t251) else (some false)) else (some false))) else (laws_FnTimes.j2 kj15 l0 t244 t251))) = some r := H
                have A25 := Aside0.mk A250
                clear A250
                by_cases c26 : (t256 != (decide (t245 < 2050))) = true
                · rw [if_pos c26] at H
                  have c26b0 : (t256 != (decide (t245 < 2050))) = true := c26
                  (try (have c26b1 : decide (t256 = (decide (t245 < 2050))) = false := by simpa using c26))
                  (try (have c26b2 : (t256 == (decide (t245 < 2050))) = false := by simpa using c26))
                  (try (have c26b3 : ¬ (t256 = (decide (t245 < 2050))) := by simpa using c26))
                  clear c26
                  obtain rfl := Option.some.inj H
                  go_wp2_with (first | ((with_reducible refine gate_callee (f := 18) rfl ?_); refine goesL_ (some 98) rfl rfl Try.func18 (by kernel_rfl) rfl #[.int .i64 t244] rfl (by (try simp only [List.map_toArray, List.map_cons, List.map_nil]); first | done | rfl | (simp only [List.length_drop, List.length_take]; rfl)) ?_; (with_reducible refine (impl_ShortTime.calls kj15 t244 t255 t256 _ A25.out).mono ?_); rintro e w27 ⟨rfl, hb⟩; refine ⟨_, rfl, ?_⟩; have n0_ := Aside0.mk (below_step (by repeat (first | (with_reducible first | exact HB.out | apply below_alloc | apply pw_below_drewN | apply below_drew1) | exact HB.out)) hb); clear HB; have HB := n0_; clear n0_; (try clear hb); (try clear hb2); (try clear hk); (try clear hi)))
                  go_ret
                  exact ⟨by first | rfl | (simp [errW_none, errW_some] <;> rfl) | (simp [*, errW_none, errW_some] <;> rfl), by repeat (first | (with_reducible first | exact HB.out | apply below_alloc | apply pw_below_drewN | apply below_drew1) | exact HB.out)⟩
                · rw [if_neg c26] at H
                  have c26b0 : (t256 != (decide (t245 < 2050))) = false := by simpa using c26
                  (try (have c26b1 : decide (t256 = (decide (t245 < 2050))) = true := by simpa using c26))
                  (try (have c26b2 : (t256 == (decide (t245 < 2050))) = true := by simpa using c26))
                  clear c26
                  have HC28 := Aside0.mk H
                  clear H
                  go_upto_if 105 with (first | ((with_reducible refine gate_callee (f := 18) rfl ?_); refine goesL_ (some 98) rfl rfl Try.func18 (by kernel_rfl) rfl #[.int .i64 t244] rfl (by (try simp only [List.map_toArray, List.map_cons, List.map_nil]); first | done | rfl | (simp only [List.length_drop, List.length_take]; rfl)) ?_; (with_reducible refine (impl_ShortTime.calls kj15 t244 t255 t256 _ A25.out).mono ?_); rintro e w29 ⟨rfl, hb⟩; refine ⟨_, rfl, ?_⟩; have n0_ := Aside0.mk (below_step (by repeat (first | (with_reducible first | exact HB.out | apply below_alloc | apply pw_below_drewN | apply below_drew1) | exact HB.out)) hb); clear HB; have HB := n0_; clear n0_; (try clear hb); (try clear hb2); (try clear hk); (try clear hi)))
                  (try simp only [Act.put, List.setIfInBounds_toArray, List.set_cons_zero, List.set_cons_succ])
                  go_cut [] (fun wc => ∃ (kq : Nat), Aside0 (laws_FnTimes.j2 kq l0 t244 t251 = some r) ∧ Aside0 (kq ≤ kj15) ∧ Aside0 (Below w.heap.size w wc))
                  case first =>
                    have H := HC28.out
                    clear HC28
                    by_cases c30 : t256 = true
                    · subst c30
                      have H1 : ((impl_ReadTime.f kj15 t255).bind fun bt257 => (if bt257.2 = true then (if bt257.1 = t244 then (laws_FnTimes.j2 kj15 l0 t244 t251) else (some false)) else (some false))) = some r := by rw [if_pos rfl] at H; exact H
                      clear H
                      have H := H1
                      clear H1
                      replace H := Option.bind_eq_some_iff.mp H
                      obtain ⟨⟨t257, t258⟩, A310, H⟩ := H
                      replace H : (if t258 = true then (if t257 = t244 then (laws_FnTimes.j2 kj15 l0 t244 t251) else (some false)) else (some false)) = some r := H
                      have A31 := Aside0.mk A310
                      clear A310
                      by_cases c32 : t258 = true
                      · subst c32
                        have H1 : (if t257 = t244 then (laws_FnTimes.j2 kj15 l0 t244 t251) else (some false)) = some r := by rw [if_pos rfl] at H; exact H
                        clear H
                        have H := H1
                        clear H1
                        by_cases c33 : t257 = t244
                        · rw [if_pos c33] at H
                          have c33b0 : (t257 == t244) = true := beq_iff_eq.mpr c33
                          have c33b1 : (t257 != t244) = false := bne_eq_false_iff_eq.mpr c33
                          clear c33
                          (first | rw [c33b0] | (simp only [i64_w, i32_w]; rw [c33b0]) | skip)
                          have H' := Aside0.mk H
                          clear H
                          go_wp2_with (first | ((with_reducible refine gate_callee (f := 17) rfl ?_); refine goesL_ (some 108) rfl rfl Try.func17 (by kernel_rfl) rfl #[.string t255] rfl (by (try simp only [List.map_toArray, List.map_cons, List.map_nil]); first | done | rfl | (simp only [List.length_drop, List.length_take]; rfl)) ?_; (with_reducible refine (impl_ReadTime.calls kj15 t255 t257 true _ A31.out).mono ?_); rintro e w34 ⟨rfl, hb⟩; refine ⟨_, rfl, ?_⟩; have n0_ := Aside0.mk (below_step (by repeat (first | (with_reducible first | exact HB.out | apply below_alloc | apply pw_below_drewN | apply below_drew1) | exact HB.out)) hb); clear HB; have HB := n0_; clear n0_; (try clear hb); (try clear hb2); (try clear hk); (try clear hi)))
                          go_meet
                          case rel => exact ⟨_, H', ⟨by have := HJ5.out; have := HJ15.out; first | omega | exact Nat.le_refl _⟩, ⟨by repeat (first | (with_reducible first | exact HB.out | apply below_alloc | apply pw_below_drewN | apply below_drew1) | exact HB.out)⟩⟩
                        · rw [if_neg c33] at H
                          have c33b0 : (t257 == t244) = false := beq_eq_false_iff_ne.mpr c33
                          have c33b1 : (t257 != t244) = true := bne_iff_ne.mpr c33
                          (first | rw [c33b0] | (simp only [i64_w, i32_w]; rw [c33b0]) | skip)
                          obtain rfl := Option.some.inj H
                          go_wp2_with (first | ((with_reducible refine gate_callee (f := 17) rfl ?_); refine goesL_ (some 108) rfl rfl Try.func17 (by kernel_rfl) rfl #[.string t255] rfl (by (try simp only [List.map_toArray, List.map_cons, List.map_nil]); first | done | rfl | (simp only [List.length_drop, List.length_take]; rfl)) ?_; (with_reducible refine (impl_ReadTime.calls kj15 t255 t257 true _ A31.out).mono ?_); rintro e w35 ⟨rfl, hb⟩; refine ⟨_, rfl, ?_⟩; have n0_ := Aside0.mk (below_step (by repeat (first | (with_reducible first | exact HB.out | apply below_alloc | apply pw_below_drewN | apply below_drew1) | exact HB.out)) hb); clear HB; have HB := n0_; clear n0_; (try clear hb); (try clear hb2); (try clear hk); (try clear hi)))
                          go_ret
                          exact ⟨by first | rfl | (simp [errW_none, errW_some] <;> rfl) | (simp [*, errW_none, errW_some] <;> rfl), by repeat (first | (with_reducible first | exact HB.out | apply below_alloc | apply pw_below_drewN | apply below_drew1) | exact HB.out)⟩
                      · replace c32 := Bool.eq_false_iff.mpr c32
                        subst c32
                        have H1 : (some false) = some r := by rw [if_neg (show ¬ (false = true) by decide)] at H; exact H
                        clear H
                        have H := H1
                        clear H1
                        obtain rfl := Option.some.inj H
                        go_wp2_with (first | ((with_reducible refine gate_callee (f := 17) rfl ?_); refine goesL_ (some 108) rfl rfl Try.func17 (by kernel_rfl) rfl #[.string t255] rfl (by (try simp only [List.map_toArray, List.map_cons, List.map_nil]); first | done | rfl | (simp only [List.length_drop, List.length_take]; rfl)) ?_; (with_reducible refine (impl_ReadTime.calls kj15 t255 t257 false _ A31.out).mono ?_); rintro e w36 ⟨rfl, hb⟩; refine ⟨_, rfl, ?_⟩; have n0_ := Aside0.mk (below_step (by repeat (first | (with_reducible first | exact HB.out | apply below_alloc | apply pw_below_drewN | apply below_drew1) | exact HB.out)) hb); clear HB; have HB := n0_; clear n0_; (try clear hb); (try clear hb2); (try clear hk); (try clear hi)))
                        go_ret
                        exact ⟨by first | rfl | (simp [errW_none, errW_some] <;> rfl) | (simp [*, errW_none, errW_some] <;> rfl), by repeat (first | (with_reducible first | exact HB.out | apply below_alloc | apply pw_below_drewN | apply below_drew1) | exact HB.out)⟩
                    · replace c30 := Bool.eq_false_iff.mpr c30
                      subst c30
                      have H1 : (laws_FnTimes.j2 kj15 l0 t244 t251) = some r := by rw [if_neg (show ¬ (false = true) by decide)] at H; exact H
                      clear H
                      have H := H1
                      clear H1
                      have H' := Aside0.mk H
                      clear H
                      go_wp2
                      go_meet
                      case rel => exact ⟨_, H', ⟨by have := HJ5.out; have := HJ15.out; first | omega | exact Nat.le_refl _⟩, ⟨by repeat (first | (with_reducible first | exact HB.out | apply below_alloc | apply pw_below_drewN | apply below_drew1) | exact HB.out)⟩⟩
                  case rest =>
                    clear HC28
                    try clear c1
                    try clear c2
                    try clear p2
                    try clear c3
                    try clear c8
                    try clear c8b0
                    try clear c9
                    try clear c10
                    try clear c10b0
                    try clear c10b1
                    try clear c11
                    try clear c11b0
                    try clear c11b1
                    try clear c12
                    try clear c12b0
                    try clear c12b1
                    try clear c13
                    try clear c14
                    try clear c15
                    try clear c16
                    try clear c17
                    try clear c18
                    try clear c19
                    try clear c20
                    try clear c20b0
                    try clear c20b1
                    try clear c21
                    try clear c22
                    try clear c23
                    try clear c23b0
                    try clear c23b1
                    try clear c24
                    try clear c26
                    try clear c26b0
                    try clear c26b1
                    try clear c26b2
                    try clear c30
                    try clear c32
                    try clear c33
                    try clear c33b0
                    try clear c33b1
                    try clear p2
                    obtain ⟨kq, HA, HJ27, HB⟩ := hcut
                    cases kq with
                    | zero => exact absurd HA.out (by simp [laws_FnTimes.j2])
                    | succ kj27 =>
                      have H := HA.out
                      clear HA
                      simp only [laws_FnTimes.j2] at H
                      replace H := Option.bind_eq_some_iff.mp H
                      obtain ⟨t259, A370, H⟩ := H
                      replace H : ((laws_at.f l0 1).bind fun t260 => ((impl_LongTime.f kj27 (wrap64 (t244 + (wrap64 (t259 * t260))))).bind fun bt261 => (if bt261.2 = true then (laws_FnTimes.j3 kj27 t244 ((Op.bytesLess t251.toList bt261.1.toList) != (decide ((wrap64 (t244 + (wrap64 (t259 * t260)))) > t244)))) else (laws_FnTimes.j3 kj27 t244 false)))) = some r := H
                      have A37 := Aside0.mk A370
                      clear A370
                      replace H := Option.bind_eq_some_iff.mp H
                      obtain ⟨t260, A380, H⟩ := H
                      replace H : ((impl_LongTime.f kj27 (wrap64 (t244 + (wrap64 (t259 * t260))))).bind fun bt261 => (if bt261.2 = true then (laws_FnTimes.j3 kj27 t244 ((Op.bytesLess t251.toList bt261.1.toList) != (decide ((wrap64 (t244 + (wrap64 (t259 * t260)))) > t244)))) else (laws_FnTimes.j3 kj27 t244 false))) = some r := H
                      have A38 := Aside0.mk A380
                      clear A380
                      replace H := Option.bind_eq_some_iff.mp H
                      obtain ⟨⟨t261, t262⟩, A390, H⟩ := H
                      replace H : (if t262 = true then (laws_FnTimes.j3 kj27 t244 ((Op.bytesLess t251.toList t261.toList) != (decide ((wrap64 (t244 + (wrap64 (t259 * t260)))) > t244)))) else (laws_FnTimes.j3 kj27 t244 false)) = some r := H
                      have A39 := Aside0.mk A390
                      clear A390
                      have HC40 := Aside0.mk H
                      clear H
                      go_upto_region 21 with (first | ((with_reducible refine gate_callee (f := 19) rfl ?_); refine goesL_ (some 120) rfl rfl Try.func19 (by kernel_rfl) rfl #[.slice A0 l0.length c0, .int .i64 0] rfl (by (try simp only [List.map_toArray, List.map_cons, List.map_nil]); first | done | rfl | (simp only [List.length_drop, List.length_take]; rfl)) ?_; (with_reducible refine (laws_at.calls _ _ l0 0 t259 _ ?side1 ?side2 A37.out).mono ?_); (case side1 => repeat (first | exact (Kd.C_below HR0.out HB.out) | (with_reducible refine Kd.C_alloc ?_ _) | (with_reducible refine Kd.C_drewN ?_ _) | (with_reducible refine Kd.C_drew ?_))); (case side2 => exact HC0.out); rintro e w' ⟨rfl, ⟨nd, rfl⟩⟩; refine ⟨_, rfl, ?_⟩) | ((with_reducible refine gate_callee (f := 19) rfl ?_); refine goesL_ (some 122) rfl rfl Try.func19 (by kernel_rfl) rfl #[.slice A0 l0.length c0, .int .i64 1] rfl (by (try simp only [List.map_toArray, List.map_cons, List.map_nil]); first | done | rfl | (simp only [List.length_drop, List.length_take]; rfl)) ?_; (with_reducible refine (laws_at.calls _ _ l0 1 t260 _ ?side1 ?side2 A38.out).mono ?_); (case side1 => repeat (first | exact (Kd.C_below HR0.out (by repeat (first | (with_reducible first | exact HB.out | apply below_alloc | apply pw_below_drewN | apply below_drew1) | exact HB.out))) | (with_reducible refine Kd.C_alloc ?_ _) | (with_reducible refine Kd.C_drewN ?_ _) | (with_reducible refine Kd.C_drew ?_))); (case side2 => exact HC0.out); rintro e w' ⟨rfl, ⟨nd, rfl⟩⟩; refine ⟨_, rfl, ?_⟩) | ((with_reducible refine gate_callee (f := 16) rfl ?_); refine goesL_ (some 127) rfl rfl Try.func16 (by kernel_rfl) rfl #[.int .i64 (wrap64 (t244 + (wrap64 (t259 * t260))))] rfl (by (try simp only [List.map_toArray, List.map_cons, List.map_nil]); first | done | rfl | (simp only [List.length_drop, List.length_take]; rfl)) ?_; (with_reducible refine (impl_LongTime.calls kj27 (wrap64 (t244 + (wrap64 (t259 * t260)))) t261 t262 _ A39.out).mono ?_); rintro e w41 ⟨rfl, hb⟩; refine ⟨_, rfl, ?_⟩; have n0_ := Aside0.mk (below_step (by repeat (first | (with_reducible first | exact HB.out | apply below_alloc | apply pw_below_drewN | apply below_drew1) | exact HB.out)) hb); clear HB; have HB := n0_; clear n0_; (try clear hb); (try clear hb2); (try clear hk); (try clear hi)))
                      (try simp only [Act.put, List.setIfInBounds_toArray, List.set_cons_zero, List.set_cons_succ])
                      go_cut [139] (fun v139 wc => ∃ (kq : Nat) (x139_39 : Bool), v139 = .bool x139_39 ∧ Aside0 (laws_FnTimes.j3 kq t244 x139_39 = some r) ∧ Aside0 (kq ≤ kj27) ∧ Aside0 (Below w.heap.size w wc))
                      case first =>
                        have H := HC40.out
                        clear HC40
                        by_cases c42 : t262 = true
                        · subst c42
                          have H1 : (laws_FnTimes.j3 kj27 t244 ((Op.bytesLess t251.toList t261.toList) != (decide ((wrap64 (t244 + (wrap64 (t259 * t260)))) > t244)))) = some r := by rw [if_pos rfl] at H; exact H
                          clear H
                          have H := H1
                          clear H1
                          have H' := Aside0.mk H
                          clear H
                          go_wp2
                          go_meet
                          case rel => exact ⟨_, (((Op.bytesLess t251.toList t261.toList) != (decide ((wrap64 (t244 + (wrap64 (t259 * t260)))) > t244)))), (by first | rfl | (simp; done) | (simp [*]; done) | (simp only [decide_eq_true_eq, gt_iff_lt]; simp; rw [Go.Proofs.Ythhomopijhopfaa.Base.bl_gtr]; cases Op.bytesLess _ _ <;> simp)), H', ⟨by have := HJ5.out; have := HJ15.out; have := HJ27.out; first | omega | exact Nat.le_refl _⟩, ⟨by repeat (first | (with_reducible first | exact HB.out | apply below_alloc | apply pw_below_drewN | apply below_drew1) | exact HB.out)⟩⟩
                        · replace c42 := Bool.eq_false_iff.mpr c42
                          subst c42
                          have H1 : (laws_FnTimes.j3 kj27 t244 false) = some r := by rw [if_neg (show ¬ (false = true) by decide)] at H; exact H
                          clear H
                          have H := H1
                          clear H1
                          have H' := Aside0.mk H
                          clear H
                          go_wp2
                          go_meet
                          case rel => exact ⟨_, (false), (by first | rfl | (simp; done) | (simp [*]; done)), H', ⟨by have := HJ5.out; have := HJ15.out; have := HJ27.out; first | omega | exact Nat.le_refl _⟩, ⟨by repeat (first | (with_reducible first | exact HB.out | apply below_alloc | apply pw_below_drewN | apply below_drew1) | exact HB.out)⟩⟩
                      case rest =>
                        clear HC40
                        try clear c1
                        try clear c2
                        try clear p2
                        try clear c3
                        try clear c4
                        try clear p6
                        try clear c8
                        try clear c8b0
                        try clear c9
                        try clear c10
                        try clear c10b0
                        try clear c10b1
                        try clear c11
                        try clear c11b0
                        try clear c11b1
                        try clear c12
                        try clear c12b0
                        try clear c12b1
                        try clear c13
                        try clear c14
                        try clear c15
                        try clear c16
                        try clear c17
                        try clear c18
                        try clear c19
                        try clear c20
                        try clear c20b0
                        try clear c20b1
                        try clear c21
                        try clear c22
                        try clear c23
                        try clear c23b0
                        try clear c23b1
                        try clear c24
                        try clear c26
                        try clear c26b0
                        try clear c26b1
                        try clear c26b2
                        try clear c30
                        try clear c32
                        try clear c33
                        try clear c33b0
                        try clear c33b1
                        try clear c42
                        try clear p2
                        obtain ⟨kq, x139_39, rfl, HA, HJ39, HB⟩ := hcut
                        cases kq with
                        | zero => exact absurd HA.out (by simp [laws_FnTimes.j3])
                        | succ kj39 =>
                          have H := HA.out
                          clear HA
                          simp only [laws_FnTimes.j3] at H
                          by_cases c43 : x139_39 = true
                          · subst c43
                            have H1 : (some false) = some r := by rw [if_pos rfl] at H; exact H
                            clear H
                            have H := H1
                            clear H1
                            obtain rfl := Option.some.inj H
                            go_wp2
                            go_ret
                            exact ⟨by first | rfl | (simp [errW_none, errW_some] <;> rfl) | (simp [*, errW_none, errW_some] <;> rfl), by repeat (first | (with_reducible first | exact HB.out | apply below_alloc | apply pw_below_drewN | apply below_drew1) | exact HB.out)⟩
                          · replace c43 := Bool.eq_false_iff.mpr c43
                            subst c43
                            have H1 : ((impl_Span.f t244 t244).bind fun t263 => (if t263 = 0 then ((impl_Within.f t244 t244 t244).bind fun t264 => (if t264 = true then (if t244 = 4102444799 then (some true) else ((impl_Span.f t244 (wrap64 (t244 + 1))).bind fun t265 => (if t265 = 1 then ((impl_Within.f (wrap64 (t244 + 1)) t244 t244).bind fun t266 => (some (!t266))) else (some false)))) else (some false))) else (some false))) = some r := by rw [if_neg (show ¬ (false = true) by decide)] at H; exact H
                            clear H
                            have H := H1
                            clear H1
                            replace H := Option.bind_eq_some_iff.mp H
                            obtain ⟨t263, A440, H⟩ := H
                            replace H : (if t263 = 0 then ((impl_Within.f t244 t244 t244).bind fun t264 => (if t264 = true then (if t244 = 4102444799 then (some true) else ((impl_Span.f t244 (wrap64 (t244 + 1))).bind fun t265 => (if t265 = 1 then ((impl_Within.f (wrap64 (t244 + 1)) t244 t244).bind fun t266 => (some (!t266))) else (some false)))) else (some false))) else (some false)) = some r := H
                            have A44 := Aside0.mk A440
                            clear A440
                            by_cases c45 : t263 = 0
                            · rw [if_pos c45] at H
                              have c45b0 : (t263 == 0) = true := beq_iff_eq.mpr c45
                              have c45b1 : (t263 != 0) = false := bne_eq_false_iff_eq.mpr c45
                              clear c45
                              replace H := Option.bind_eq_some_iff.mp H
                              obtain ⟨t264, A460, H⟩ := H
                              replace H : (if t264 = true then (if t244 = 4102444799 then (some true) else ((impl_Span.f t244 (wrap64 (t244 + 1))).bind fun t265 => (if t265 = 1 then ((impl_Within.f (wrap64 (t244 + 1)) t244 t244).bind fun t266 => (some (!t266))) else (some false)))) else (some false)) = some r := H
                              have A46 := Aside0.mk A460
                              clear A460
                              by_cases c47 : t264 = true
                              · subst c47
                                have H1 : (if t244 = 4102444799 then (some true) else ((impl_Span.f t244 (wrap64 (t244 + 1))).bind fun t265 => (if t265 = 1 then ((impl_Within.f (wrap64 (t244 + 1)) t244 t244).bind fun t266 => (some (!t266))) else (some false)))) = some r := by rw [if_pos rfl] at H; exact H
                                clear H
                                have H := H1
                                clear H1
                                by_cases c48 : t244 = 4102444799
                                · rw [if_pos c48] at H
                                  have c48b0 : (t244 == 4102444799) = true := beq_iff_eq.mpr c48
                                  have c48b1 : (t244 != 4102444799) = false := bne_eq_false_iff_eq.mpr c48
                                  clear c48
                                  obtain rfl := Option.some.inj H
                                  go_wp2_with (first | ((with_reducible refine gate_callee (f := 20) rfl ?_); refine goesL_ (some 142) rfl rfl Try.func20 (by kernel_rfl) rfl #[.int .i64 t244, .int .i64 t244] rfl (by (try simp only [List.map_toArray, List.map_cons, List.map_nil]); first | done | rfl | (simp only [List.length_drop, List.length_take]; rfl)) ?_; (with_reducible refine (impl_Span.calls t244 t244 t263 _ A44.out).mono ?_); rintro e w' ⟨rfl, ⟨nd, rfl⟩⟩; refine ⟨_, rfl, ?_⟩) | (go_at_call 21; (with_reducible refine (impl_Within.calls t244 t244 t244 true _ A46.out).mono ?_); rintro e w' ⟨rfl, ⟨nd, rfl⟩⟩))
                                  go_ret
                                  exact ⟨by first | rfl | (simp [errW_none, errW_some] <;> rfl) | (simp [*, errW_none, errW_some] <;> rfl), by repeat (first | (with_reducible first | exact HB.out | apply below_alloc | apply pw_below_drewN | apply below_drew1) | exact HB.out)⟩
                                · rw [if_neg c48] at H
                                  have c48b0 : (t244 == 4102444799) = false := beq_eq_false_iff_ne.mpr c48
                                  have c48b1 : (t244 != 4102444799) = true := bne_iff_ne.mpr c48
                                  replace H := Option.bind_eq_some_iff.mp H
                                  obtain ⟨t265, A490, H⟩ := H
                                  replace H : (if t265 = 1 then ((impl_Within.f (wrap64 (t244 + 1)) t244 t244).bind fun t266 => (some (!t266))) else (some false)) = some r := H
                                  have A49 := Aside0.mk A490
                                  clear A490
                                  by_cases c50 : t265 = 1
                                  · rw [if_pos c50] at H
                                    have c50b0 : (t265 == 1) = true := beq_iff_eq.mpr c50
                                    have c50b1 : (t265 != 1) = false := bne_eq_false_iff_eq.mpr c50
                                    clear c50
                                    replace H := Option.bind_eq_some_iff.mp H
                                    obtain ⟨t266, A510, H⟩ := H
                                    replace H : (some (!t266)) = some r := H
                                    have A51 := Aside0.mk A510
                                    clear A510
                                    obtain rfl := Option.some.inj H
                                    go_wp2_with (first | ((with_reducible refine gate_callee (f := 20) rfl ?_); refine goesL_ (some 142) rfl rfl Try.func20 (by kernel_rfl) rfl #[.int .i64 t244, .int .i64 t244] rfl (by (try simp only [List.map_toArray, List.map_cons, List.map_nil]); first | done | rfl | (simp only [List.length_drop, List.length_take]; rfl)) ?_; (with_reducible refine (impl_Span.calls t244 t244 t263 _ A44.out).mono ?_); rintro e w' ⟨rfl, ⟨nd, rfl⟩⟩; refine ⟨_, rfl, ?_⟩) | (go_at_call 21; (with_reducible refine (impl_Within.calls t244 t244 t244 true _ A46.out).mono ?_); rintro e w' ⟨rfl, ⟨nd, rfl⟩⟩) | (go_at_call 20; (with_reducible refine (impl_Span.calls t244 (wrap64 (t244 + 1)) t265 _ A49.out).mono ?_); rintro e w' ⟨rfl, ⟨nd, rfl⟩⟩) | (go_at_call 21; (with_reducible refine (impl_Within.calls (wrap64 (t244 + 1)) t244 t244 t266 _ A51.out).mono ?_); rintro e w' ⟨rfl, ⟨nd, rfl⟩⟩))
                                    go_ret
                                    exact ⟨by first | rfl | (simp [errW_none, errW_some] <;> rfl) | (simp [*, errW_none, errW_some] <;> rfl), by repeat (first | (with_reducible first | exact HB.out | apply below_alloc | apply pw_below_drewN | apply below_drew1) | exact HB.out)⟩
                                  · rw [if_neg c50] at H
                                    have c50b0 : (t265 == 1) = false := beq_eq_false_iff_ne.mpr c50
                                    have c50b1 : (t265 != 1) = true := bne_iff_ne.mpr c50
                                    obtain rfl := Option.some.inj H
                                    go_wp2_with (first | ((with_reducible refine gate_callee (f := 20) rfl ?_); refine goesL_ (some 142) rfl rfl Try.func20 (by kernel_rfl) rfl #[.int .i64 t244, .int .i64 t244] rfl (by (try simp only [List.map_toArray, List.map_cons, List.map_nil]); first | done | rfl | (simp only [List.length_drop, List.length_take]; rfl)) ?_; (with_reducible refine (impl_Span.calls t244 t244 t263 _ A44.out).mono ?_); rintro e w' ⟨rfl, ⟨nd, rfl⟩⟩; refine ⟨_, rfl, ?_⟩) | (go_at_call 21; (with_reducible refine (impl_Within.calls t244 t244 t244 true _ A46.out).mono ?_); rintro e w' ⟨rfl, ⟨nd, rfl⟩⟩) | (go_at_call 20; (with_reducible refine (impl_Span.calls t244 (wrap64 (t244 + 1)) t265 _ A49.out).mono ?_); rintro e w' ⟨rfl, ⟨nd, rfl⟩⟩))
                                    go_ret
                                    exact ⟨by first | rfl | (simp [errW_none, errW_some] <;> rfl) | (simp [*, errW_none, errW_some] <;> rfl), by repeat (first | (with_reducible first | exact HB.out | apply below_alloc | apply pw_below_drewN | apply below_drew1) | exact HB.out)⟩
                              · replace c47 := Bool.eq_false_iff.mpr c47
                                subst c47
                                have H1 : (some false) = some r := by rw [if_neg (show ¬ (false = true) by decide)] at H; exact H
                                clear H
                                have H := H1
                                clear H1
                                obtain rfl := Option.some.inj H
                                go_wp2_with (first | ((with_reducible refine gate_callee (f := 20) rfl ?_); refine goesL_ (some 142) rfl rfl Try.func20 (by kernel_rfl) rfl #[.int .i64 t244, .int .i64 t244] rfl (by (try simp only [List.map_toArray, List.map_cons, List.map_nil]); first | done | rfl | (simp only [List.length_drop, List.length_take]; rfl)) ?_; (with_reducible refine (impl_Span.calls t244 t244 t263 _ A44.out).mono ?_); rintro e w' ⟨rfl, ⟨nd, rfl⟩⟩; refine ⟨_, rfl, ?_⟩) | (go_at_call 21; (with_reducible refine (impl_Within.calls t244 t244 t244 false _ A46.out).mono ?_); rintro e w' ⟨rfl, ⟨nd, rfl⟩⟩))
                                go_ret
                                exact ⟨by first | rfl | (simp [errW_none, errW_some] <;> rfl) | (simp [*, errW_none, errW_some] <;> rfl), by repeat (first | (with_reducible first | exact HB.out | apply below_alloc | apply pw_below_drewN | apply below_drew1) | exact HB.out)⟩
                            · rw [if_neg c45] at H
                              have c45b0 : (t263 == 0) = false := beq_eq_false_iff_ne.mpr c45
                              have c45b1 : (t263 != 0) = true := bne_iff_ne.mpr c45
                              obtain rfl := Option.some.inj H
                              go_wp2_with (first | ((with_reducible refine gate_callee (f := 20) rfl ?_); refine goesL_ (some 142) rfl rfl Try.func20 (by kernel_rfl) rfl #[.int .i64 t244, .int .i64 t244] rfl (by (try simp only [List.map_toArray, List.map_cons, List.map_nil]); first | done | rfl | (simp only [List.length_drop, List.length_take]; rfl)) ?_; (with_reducible refine (impl_Span.calls t244 t244 t263 _ A44.out).mono ?_); rintro e w' ⟨rfl, ⟨nd, rfl⟩⟩; refine ⟨_, rfl, ?_⟩))
                              go_ret
                              exact ⟨by first | rfl | (simp [errW_none, errW_some] <;> rfl) | (simp [*, errW_none, errW_some] <;> rfl), by repeat (first | (with_reducible first | exact HB.out | apply below_alloc | apply pw_below_drewN | apply below_drew1) | exact HB.out)⟩

/-- THE ONE PURE STATEMENT of laws_FnTimes: yours. -/
def laws_FnTimes.Pure : Prop := ∀ (l0 : List Int), l0.length ≤ maxLen → l0.length * 1 ≤ 140737488351232 → (∀ x ∈ l0, (Lit.int .u8 x).wf = true) → ∃ k, laws_FnTimes.f k l0 = some true
theorem laws_FnTimes.walk (P : laws_FnTimes.Pure) (a0 : Option Addr) (len0 cap0 : Nat) (z0 : List Int) (w : World) (w0 : (a0 = none ∧ len0 = 0 ∧ cap0 = 0 ∧ z0 = []) ∨ ∃ x, a0 = some x ∧ len0 ≤ cap0 ∧ cap0 ≤ maxLen ∧ z0.length = cap0 ∧ (∀ i, i < z0.length → w.cell? (x.add i) = some (.int .u8 (z0.getD i 0))) ∧ ∀ n ∈ z0, (Lit.int .u8 n).wf = true) (y0 : len0 * 1 ≤ 140737488351232) :
    Calls Try.prog 3 #[.slice a0 len0 cap0] w fun e w' => e = .returned (.bool true) ∧ Below w.heap.size w w' := by
  obtain ⟨l0, rfl, hr0, hm0, hw0, hc0⟩ := ReadsInt.ofRowC w0
  obtain ⟨k, h⟩ := P l0 hm0 y0 hw0
  refine (laws_FnTimes.calls k _ _ l0 true w (Kd.C_of_reads (d := (0 : Int)) (h1 := fun _ => rfl) hr0) hc0 h).mono ?_
  rintro e w' ⟨rfl, hd⟩
  exact ⟨rfl, hd⟩

end Go.Proofs.Ythhomopijhopfaa.GFnTimes
