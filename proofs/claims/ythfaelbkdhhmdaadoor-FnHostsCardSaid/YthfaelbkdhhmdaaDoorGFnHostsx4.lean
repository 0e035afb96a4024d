-- This text was written by wip/gen.py, a program of this session; Lean checks it.
import Derived.Test.YthfaelbkdhhmdaaDoorGFnHostsx0
import Derived.Test.YthfaelbkdhhmdaaDoorGFnHostsx1
import Derived.Test.YthfaelbkdhhmdaaDoorGFnHostsx2
import Derived.Test.YthfaelbkdhhmdaaDoorGFnHostsx3
namespace Go.Proofs.YthfaelbkdhhmdaaDoor.GFnHosts
open Go.RowKit Go.Proofs.YthfaelbkdhhmdaaDoorW.PrintWords Go.Proofs.YthfaelbkdhhmdaaDoorW.PrintLast Go.Proofs.YthfaelbkdhhmdaaDoorW.PrintMore
attribute [local go_sem] max2_int min2_int max_two min_two max_three min_three max_four min_four   -- for this text's walks alone
set_option linter.unusedVariables false
set_option linter.unusedSimpArgs false

/-! ### laws_FnHosts: function 10 -/
mutual
def laws_FnHosts.j0 : Nat → List Int → ByteArray → ByteArray → Bool → Bool → Option (Bool)
  | 0, _, _, _, _, _ => none
  | k + 1, x0, x3, x4, x5, x28 => if x28 = true then (some false) else (if x5 = true then (if (x3.size : Int) > 2 then (if 0 ≤ 2 then (if 2 ≤ (x3.size : Int) then (laws_FnHosts.j1 k x0 x3 x4 ((x3.extract 0 2).toList == ([42, 46] : List UInt8))) else (none)) else (none)) else (laws_FnHosts.j1 k x0 x3 x4 false)) else (laws_FnHosts.j1 k x0 x3 x4 false))
def laws_FnHosts.j1 : Nat → List Int → ByteArray → ByteArray → Bool → Option (Bool)
  | 0, _, _, _, _ => none
  | k + 1, x0, x3, x4, x39 => if x39 = true then (if 2 ≤ (x3.size : Int) then ((impl_Under.f k (x3.extract 2 x3.size) x4).bind fun t258 => (if t258 = true then (if (x3.extract 2 x3.size).toList = x4.toList then (some false) else (if 2 + x4.size ≤ 9223372036854775807 then ((impl_HostMatch.f k x3 ((⟨#[120, 46]⟩ : ByteArray) ++ x4)).bind fun t259 => (if t259 = true then (some false) else ((impl_HostMatch.f k x3 (x3.extract 2 x3.size)).bind fun t260 => (if t260 = true then (some false) else (laws_FnHosts.j2 k x0 x4))))) else (none))) else (some false))) else (none)) else (laws_FnHosts.j2 k x0 x4)
def laws_FnHosts.j2 : Nat → List Int → ByteArray → Option (Bool)
  | 0, _, _ => none
  | k + 1, x0, x4 => (impl_HostOk.f k x4).bind fun t261 => (if t261 = true then ((impl_Under.f k x4 x4).bind fun t262 => (if t262 = true then ((impl_HostMatch.f k x4 x4).bind fun t263 => (if t263 = true then ((Hand.impl_Lower.f x4).bind fun t264 => (laws_FnHosts.j3 k x0 (t264.toList != x4.toList))) else (laws_FnHosts.j3 k x0 true))) else (laws_FnHosts.j3 k x0 true))) else (laws_FnHosts.j3 k x0 false))
def laws_FnHosts.j3 : Nat → List Int → Bool → Option (Bool)
  | 0, _, _ => none
  | k + 1, x0, x82 => if x82 = true then (some false) else ((spec_DrawUnder.f k x0).bind fun bt265 => ((impl_Under.f k bt265.1 bt265.2).bind fun t267 => (if t267 = true then (if bt265.1.toList = bt265.2.toList then (laws_FnHosts.j4 k false) else ((impl_Under.f k bt265.2 bt265.1).bind fun t268 => (laws_FnHosts.j4 k t268))) else (laws_FnHosts.j4 k false))))
def laws_FnHosts.j4 : Nat → Bool → Option (Bool)
  | 0, _ => none
  | k + 1, x100 => if x100 = true then (some false) else ((impl_HostOk.f k (⟨#[97, 46, 111, 114, 103]⟩ : ByteArray)).bind fun t269 => (if t269 = true then ((impl_HostOk.f k (⟨#[]⟩ : ByteArray)).bind fun t270 => (if t270 = true then (some false) else ((Hand.impl_Lower.f (⟨#[65, 46, 90]⟩ : ByteArray)).bind fun t271 => (some (t271.toList == ([97, 46, 122] : List UInt8)))))) else (some false)))
end
def laws_FnHosts.f (k : Nat) (l0 : List Int) : Option (Bool) := (laws_big.f l0).bind fun t252 => (if t252 = true then (some true) else ((spec_DrawHostMatch.f k l0).bind fun bt253 => ((impl_HostMatch.f k bt253.1 bt253.2).bind fun t255 => (if t255 = true then ((impl_PatternOk.f k bt253.1).bind fun t256 => (if t256 = true then ((impl_HostOk.f k bt253.2).bind fun t257 => (laws_FnHosts.j0 k l0 bt253.1 bt253.2 t255 (!t257))) else (laws_FnHosts.j0 k l0 bt253.1 bt253.2 t255 true))) else (laws_FnHosts.j0 k l0 bt253.1 bt253.2 t255 false)))))
theorem laws_FnHosts.mono_l : ∀ k, (∀ y0 y1 y2 y3 y4, LeO (laws_FnHosts.j0 k y0 y1 y2 y3 y4) (laws_FnHosts.j0 (k + 1) y0 y1 y2 y3 y4)) ∧ (∀ y0 y1 y2 y3, LeO (laws_FnHosts.j1 k y0 y1 y2 y3) (laws_FnHosts.j1 (k + 1) y0 y1 y2 y3)) ∧ (∀ y0 y1, LeO (laws_FnHosts.j2 k y0 y1) (laws_FnHosts.j2 (k + 1) y0 y1)) ∧ (∀ y0 y1, LeO (laws_FnHosts.j3 k y0 y1) (laws_FnHosts.j3 (k + 1) y0 y1)) ∧ (∀ y0, LeO (laws_FnHosts.j4 k y0) (laws_FnHosts.j4 (k + 1) y0))
  | 0 => ⟨fun _ _ _ _ _ r h => by simp [laws_FnHosts.j0] at h, fun _ _ _ _ r h => by simp [laws_FnHosts.j1] at h, fun _ _ r h => by simp [laws_FnHosts.j2] at h, fun _ _ r h => by simp [laws_FnHosts.j3] at h, fun _ r h => by simp [laws_FnHosts.j4] at h⟩
  | k + 1 => by
    obtain ⟨ih0, ih1, ih2, ih3, ih4⟩ := laws_FnHosts.mono_l k
    refine ⟨?_, ?_, ?_, ?_, ?_⟩
    · intro y0 y1 y2 y3 y4
      unfold laws_FnHosts.j0
      repeat' first
      | (with_reducible exact ih0 _ _ _ _ _)
      | (with_reducible exact ih1 _ _ _ _)
      | (with_reducible exact ih2 _ _)
      | (with_reducible exact ih3 _ _)
      | (with_reducible exact ih4 _)
      | (with_reducible exact impl_HostMatch.mono _ _ _)
      | (with_reducible exact impl_HostOk.mono _ _)
      | (with_reducible exact impl_PatternOk.mono _ _)
      | (with_reducible exact impl_Under.mono _ _ _)
      | (with_reducible exact spec_DrawHostMatch.mono _ _)
      | (with_reducible exact spec_DrawUnder.mono _ _)
      | (with_reducible exact LeO.refl _)
      | (with_reducible exact LeO.none _)
      | (with_reducible refine LeO.ite ?_ ?_)
      | (with_reducible refine LeO.bind ?_ (fun _ => ?_))
      | exact ih0 _ _ _ _ _
      | exact ih1 _ _ _ _
      | exact ih2 _ _
      | exact ih3 _ _
      | exact ih4 _
      | exact impl_HostMatch.mono _ _ _
      | exact impl_HostOk.mono _ _
      | exact impl_PatternOk.mono _ _
      | exact impl_Under.mono _ _ _
      | exact spec_DrawHostMatch.mono _ _
      | exact spec_DrawUnder.mono _ _
      | exact LeO.none _
      | refine LeO.ite ?_ ?_
      | refine LeO.bind ?_ (fun _ => ?_)
    · intro y0 y1 y2 y3
      unfold laws_FnHosts.j1
      repeat' first
      | (with_reducible exact ih0 _ _ _ _ _)
      | (with_reducible exact ih1 _ _ _ _)
      | (with_reducible exact ih2 _ _)
      | (with_reducible exact ih3 _ _)
      | (with_reducible exact ih4 _)
      | (with_reducible exact impl_HostMatch.mono _ _ _)
      | (with_reducible exact impl_HostOk.mono _ _)
      | (with_reducible exact impl_PatternOk.mono _ _)
      | (with_reducible exact impl_Under.mono _ _ _)
      | (with_reducible exact spec_DrawHostMatch.mono _ _)
      | (with_reducible exact spec_DrawUnder.mono _ _)
      | (with_reducible exact LeO.refl _)
      | (with_reducible exact LeO.none _)
      | (with_reducible refine LeO.ite ?_ ?_)
      | (with_reducible refine LeO.bind ?_ (fun _ => ?_))
      | exact ih0 _ _ _ _ _
      | exact ih1 _ _ _ _
      | exact ih2 _ _
      | exact ih3 _ _
      | exact ih4 _
      | exact impl_HostMatch.mono _ _ _
      | exact impl_HostOk.mono _ _
      | exact impl_PatternOk.mono _ _
      | exact impl_Under.mono _ _ _
      | exact spec_DrawHostMatch.mono _ _
      | exact spec_DrawUnder.mono _ _
      | exact LeO.none _
      | refine LeO.ite ?_ ?_
      | refine LeO.bind ?_ (fun _ => ?_)
    · intro y0 y1
      unfold laws_FnHosts.j2
      repeat' first
      | (with_reducible exact ih0 _ _ _ _ _)
      | (with_reducible exact ih1 _ _ _ _)
      | (with_reducible exact ih2 _ _)
      | (with_reducible exact ih3 _ _)
      | (with_reducible exact ih4 _)
      | (with_reducible exact impl_HostMatch.mono _ _ _)
      | (with_reducible exact impl_HostOk.mono _ _)
      | (with_reducible exact impl_PatternOk.mono _ _)
      | (with_reducible exact impl_Under.mono _ _ _)
      | (with_reducible exact spec_DrawHostMatch.mono _ _)
      | (with_reducible exact spec_DrawUnder.mono _ _)
      | (with_reducible exact LeO.refl _)
      | (with_reducible exact LeO.none _)
      | (with_reducible refine LeO.ite ?_ ?_)
      | (with_reducible refine LeO.bind ?_ (fun _ => ?_))
      | exact ih0 _ _ _ _ _
      | exact ih1 _ _ _ _
      | exact ih2 _ _
      | exact ih3 _ _
      | exact ih4 _
      | exact impl_HostMatch.mono _ _ _
      | exact impl_HostOk.mono _ _
      | exact impl_PatternOk.mono _ _
      | exact impl_Under.mono _ _ _
      | exact spec_DrawHostMatch.mono _ _
      | exact spec_DrawUnder.mono _ _
      | exact LeO.none _
      | refine LeO.ite ?_ ?_
      | refine LeO.bind ?_ (fun _ => ?_)
    · intro y0 y1
      unfold laws_FnHosts.j3
      repeat' first
      | (with_reducible exact ih0 _ _ _ _ _)
      | (with_reducible exact ih1 _ _ _ _)
      | (with_reducible exact ih2 _ _)
      | (with_reducible exact ih3 _ _)
      | (with_reducible exact ih4 _)
      | (with_reducible exact impl_HostMatch.mono _ _ _)
      | (with_reducible exact impl_HostOk.mono _ _)
      | (with_reducible exact impl_PatternOk.mono _ _)
      | (with_reducible exact impl_Under.mono _ _ _)
      | (with_reducible exact spec_DrawHostMatch.mono _ _)
      | (with_reducible exact spec_DrawUnder.mono _ _)
      | (with_reducible exact LeO.refl _)
      | (with_reducible exact LeO.none _)
      | (with_reducible refine LeO.ite ?_ ?_)
      | (with_reducible refine LeO.bind ?_ (fun _ => ?_))
      | exact ih0 _ _ _ _ _
      | exact ih1 _ _ _ _
      | exact ih2 _ _
      | exact ih3 _ _
      | exact ih4 _
      | exact impl_HostMatch.mono _ _ _
      | exact impl_HostOk.mono _ _
      | exact impl_PatternOk.mono _ _
      | exact impl_Under.mono _ _ _
      | exact spec_DrawHostMatch.mono _ _
      | exact spec_DrawUnder.mono _ _
      | exact LeO.none _
      | refine LeO.ite ?_ ?_
      | refine LeO.bind ?_ (fun _ => ?_)
    · intro y0
      unfold laws_FnHosts.j4
      repeat' first
      | (with_reducible exact ih0 _ _ _ _ _)
      | (with_reducible exact ih1 _ _ _ _)
      | (with_reducible exact ih2 _ _)
      | (with_reducible exact ih3 _ _)
      | (with_reducible exact ih4 _)
      | (with_reducible exact impl_HostMatch.mono _ _ _)
      | (with_reducible exact impl_HostOk.mono _ _)
      | (with_reducible exact impl_PatternOk.mono _ _)
      | (with_reducible exact impl_Under.mono _ _ _)
      | (with_reducible exact spec_DrawHostMatch.mono _ _)
      | (with_reducible exact spec_DrawUnder.mono _ _)
      | (with_reducible exact LeO.refl _)
      | (with_reducible exact LeO.none _)
      | (with_reducible refine LeO.ite ?_ ?_)
      | (with_reducible refine LeO.bind ?_ (fun _ => ?_))
      | exact ih0 _ _ _ _ _
      | exact ih1 _ _ _ _
      | exact ih2 _ _
      | exact ih3 _ _
      | exact ih4 _
      | exact impl_HostMatch.mono _ _ _
      | exact impl_HostOk.mono _ _
      | exact impl_PatternOk.mono _ _
      | exact impl_Under.mono _ _ _
      | exact spec_DrawHostMatch.mono _ _
      | exact spec_DrawUnder.mono _ _
      | exact LeO.none _
      | refine LeO.ite ?_ ?_
      | refine LeO.bind ?_ (fun _ => ?_)
theorem laws_FnHosts.mono : ∀ a0 k, LeO (laws_FnHosts.f k a0) (laws_FnHosts.f (k + 1) a0) := by
  intro a0 k
  obtain ⟨ih0, ih1, ih2, ih3, ih4⟩ := laws_FnHosts.mono_l k
  unfold laws_FnHosts.f
  repeat' first
      | (with_reducible exact ih0 _ _ _ _ _)
      | (with_reducible exact ih1 _ _ _ _)
      | (with_reducible exact ih2 _ _)
      | (with_reducible exact ih3 _ _)
      | (with_reducible exact ih4 _)
      | (with_reducible exact impl_HostMatch.mono _ _ _)
      | (with_reducible exact impl_HostOk.mono _ _)
      | (with_reducible exact impl_PatternOk.mono _ _)
      | (with_reducible exact impl_Under.mono _ _ _)
      | (with_reducible exact spec_DrawHostMatch.mono _ _)
      | (with_reducible exact spec_DrawUnder.mono _ _)
      | (with_reducible exact LeO.refl _)
      | (with_reducible exact LeO.none _)
      | (with_reducible refine LeO.ite ?_ ?_)
      | (with_reducible refine LeO.bind ?_ (fun _ => ?_))
      | exact ih0 _ _ _ _ _
      | exact ih1 _ _ _ _
      | exact ih2 _ _
      | exact ih3 _ _
      | exact ih4 _
      | exact impl_HostMatch.mono _ _ _
      | exact impl_HostOk.mono _ _
      | exact impl_PatternOk.mono _ _
      | exact impl_Under.mono _ _ _
      | exact spec_DrawHostMatch.mono _ _
      | exact spec_DrawUnder.mono _ _
      | exact LeO.none _
      | refine LeO.ite ?_ ?_
      | refine LeO.bind ?_ (fun _ => ?_)
set_option maxHeartbeats 8000000 in
set_option maxRecDepth 100000 in
theorem laws_FnHosts.calls (k : Nat) (A0 : Option Addr) (c0 : Nat) (l0 : List Int) (r : Bool) (w : World) (hr0 : Kd.C (Kd.int .u8) w A0 l0.length l0) (hc0 : l0.length ≤ c0) (h : laws_FnHosts.f k l0 = some r) :
    Calls Tryd.prog 10 #[.slice A0 l0.length c0] w fun e w' => e = .returned (.bool r) ∧ Below w.heap.size w w' := by
  have HR0 := Aside0.mk hr0
  have HC0 := Aside0.mk hc0
  clear hr0 hc0
  have HB := Aside0.mk (Below.refl w.heap.size w)
  have H : ((laws_big.f l0).bind fun t252 => (if t252 = true then (some true) else ((spec_DrawHostMatch.f k l0).bind fun bt253 => ((impl_HostMatch.f k bt253.1 bt253.2).bind fun t255 => (if t255 = true then ((impl_PatternOk.f k bt253.1).bind fun t256 => (if t256 = true then ((impl_HostOk.f k bt253.2).bind fun t257 => (laws_FnHosts.j0 k l0 bt253.1 bt253.2 t255 (!t257))) else (laws_FnHosts.j0 k l0 bt253.1 bt253.2 t255 true))) else (laws_FnHosts.j0 k l0 bt253.1 bt253.2 t255 false)))))) = some r := h
  clear h
  replace H := Option.bind_eq_some_iff.mp H
  obtain ⟨t252, A20, H⟩ := H
  replace H : (if t252 = true then (some true) else ((spec_DrawHostMatch.f k l0).bind fun bt253 => ((impl_HostMatch.f k bt253.1 bt253.2).bind fun t255 => (if t255 = true then ((impl_PatternOk.f k bt253.1).bind fun t256 => (if t256 = true then ((impl_HostOk.f k bt253.2).bind fun t257 => (laws_FnHosts.j0 k l0 bt253.1 bt253.2 t255 (!t257))) else (laws_FnHosts.j0 k l0 bt253.1 bt253.2 t255 true))) else (laws_FnHosts.j0 k l0 bt253.1 bt253.2 t255 false))))) = some r := H
  have A2 := Aside0.mk A20
  clear A20
  by_cases c3 : t252 = true
  · subst c3
    have H1 : (some true) = some r := by rw [if_pos rfl] at H; exact H
    clear H
    have H := H1
    clear H1
    obtain rfl := Option.some.inj H
    go_enter Tryd.func10, Tryd.ntmps10
    go_wp2_with (first | ((with_reducible refine gate_callee (f := 19) rfl ?_); refine goesL_ (some 9) rfl rfl Tryd.func19 (by kernel_rfl) rfl #[.slice A0 l0.length c0] rfl (by (try simp only [List.map_toArray, List.map_cons, List.map_nil]); first | done | rfl | (simp only [List.length_drop, List.length_take]; rfl)) ?_; (with_reducible refine (laws_big.calls _ _ l0 true _ ?side1 ?side2 A2.out).mono ?_); (case side1 => repeat (first | exact HR0.out | (with_reducible refine Kd.C_alloc ?_ _) | (with_reducible refine Kd.C_drewN ?_ _) | (with_reducible refine Kd.C_drew ?_))); (case side2 => exact HC0.out); rintro e w' ⟨rfl, ⟨nd, rfl⟩⟩; refine ⟨_, rfl, ?_⟩))
    go_ret
    exact ⟨by first | rfl | (simp [errW_none, errW_some] <;> rfl) | (simp [*, errW_none, errW_some] <;> rfl), by repeat (first | (with_reducible first | exact HB.out | apply below_alloc | apply pw_below_drewN | apply below_drew1) | exact HB.out)⟩
  · replace c3 := Bool.eq_false_iff.mpr c3
    subst c3
    have H1 : ((spec_DrawHostMatch.f k l0).bind fun bt253 => ((impl_HostMatch.f k bt253.1 bt253.2).bind fun t255 => (if t255 = true then ((impl_PatternOk.f k bt253.1).bind fun t256 => (if t256 = true then ((impl_HostOk.f k bt253.2).bind fun t257 => (laws_FnHosts.j0 k l0 bt253.1 bt253.2 t255 (!t257))) else (laws_FnHosts.j0 k l0 bt253.1 bt253.2 t255 true))) else (laws_FnHosts.j0 k l0 bt253.1 bt253.2 t255 false)))) = some r := by rw [if_neg (show ¬ (false = true) by decide)] at H; exact H
    clear H
    have H := H1
    clear H1
    replace H := Option.bind_eq_some_iff.mp H
    obtain ⟨⟨t253, t254⟩, A40, H⟩ := H
    replace H : ((impl_HostMatch.f k t253 t254).bind fun t255 => (if t255 = true then ((impl_PatternOk.f k t253).bind fun t256 => (if t256 = true then ((impl_HostOk.f k t254).bind fun t257 => (laws_FnHosts.j0 k l0 t253 t254 t255 (!t257))) else (laws_FnHosts.j0 k l0 t253 t254 t255 true))) else (laws_FnHosts.j0 k l0 t253 t254 t255 false))) = some r := H
    have A4 := Aside0.mk A40
    clear A40
    replace H := Option.bind_eq_some_iff.mp H
    obtain ⟨t255, A50, H⟩ := H
    replace H : (if t255 = true then ((impl_PatternOk.f k t253).bind fun t256 => (if t256 = true then ((impl_HostOk.f k t254).bind fun t257 => (laws_FnHosts.j0 k l0 t253 t254 t255 (!t257))) else (laws_FnHosts.j0 k l0 t253 t254 t255 true))) else (laws_FnHosts.j0 k l0 t253 t254 t255 false)) = some r := H
    have A5 := Aside0.mk A50
    clear A50
    have HC6 := Aside0.mk H
    clear H
    go_enter Tryd.func10, Tryd.ntmps10
    go_upto_region 5 with (first | ((with_reducible refine gate_callee (f := 19) rfl ?_); refine goesL_ (some 9) rfl rfl Tryd.func19 (by kernel_rfl) rfl #[.slice A0 l0.length c0] rfl (by (try simp only [List.map_toArray, List.map_cons, List.map_nil]); first | done | rfl | (simp only [List.length_drop, List.length_take]; rfl)) ?_; (with_reducible refine (laws_big.calls _ _ l0 false _ ?side1 ?side2 A2.out).mono ?_); (case side1 => repeat (first | exact HR0.out | (with_reducible refine Kd.C_alloc ?_ _) | (with_reducible refine Kd.C_drewN ?_ _) | (with_reducible refine Kd.C_drew ?_))); (case side2 => exact HC0.out); rintro e w' ⟨rfl, ⟨nd, rfl⟩⟩; refine ⟨_, rfl, ?_⟩) | ((with_reducible refine gate_callee (f := 34) rfl ?_); refine goesL_ (some 12) rfl rfl Tryd.func34 (by kernel_rfl) rfl #[.slice A0 l0.length c0] rfl (by (try simp only [List.map_toArray, List.map_cons, List.map_nil]); first | done | rfl | (simp only [List.length_drop, List.length_take]; rfl)) ?_; (with_reducible refine (spec_DrawHostMatch.calls k _ _ l0 t253 t254 _ ?side1 ?side2 A4.out).mono ?_); (case side1 => repeat (first | exact HR0.out | (with_reducible refine Kd.C_alloc ?_ _) | (with_reducible refine Kd.C_drewN ?_ _) | (with_reducible refine Kd.C_drew ?_))); (case side2 => exact HC0.out); rintro e w7 ⟨rfl, hb⟩; refine ⟨_, rfl, ?_⟩; have n0_ := Aside0.mk (below_step (by repeat (first | (with_reducible first | exact HB.out | apply below_alloc | apply pw_below_drewN | apply below_drew1) | exact HB.out)) hb); clear HB; have HB := n0_; clear n0_; (try clear hb); (try clear hb2); (try clear hk); (try clear hi)) | ((with_reducible refine gate_callee (f := 33) rfl ?_); refine goesL_ (some 17) rfl rfl Tryd.func33 (by kernel_rfl) rfl #[.string t253, .string t254] rfl (by (try simp only [List.map_toArray, List.map_cons, List.map_nil]); first | done | rfl | (simp only [List.length_drop, List.length_take]; rfl)) ?_; (with_reducible refine (impl_HostMatch.calls k t253 t254 t255 _ A5.out).mono ?_); rintro e w8 ⟨rfl, hb⟩; refine ⟨_, rfl, ?_⟩; have n0_ := Aside0.mk (below_step (by repeat (first | (with_reducible first | exact HB.out | apply below_alloc | apply pw_below_drewN | apply below_drew1) | exact HB.out)) hb); clear HB; have HB := n0_; clear n0_; (try clear hb); (try clear hb2); (try clear hk); (try clear hi)))
    (try simp only [Act.put, List.setIfInBounds_toArray, List.set_cons_zero, List.set_cons_succ])
    go_cut [28] (fun v28 wc => ∃ (kq : Nat) (x28_5 : Bool), v28 = .bool x28_5 ∧ Aside0 (laws_FnHosts.j0 kq l0 t253 t254 t255 x28_5 = some r) ∧ Aside0 (kq ≤ k) ∧ Aside0 (Below w.heap.size w wc))
    case first =>
      have H := HC6.out
      clear HC6
      by_cases c9 : t255 = true
      · subst c9
        have H1 : ((impl_PatternOk.f k t253).bind fun t256 => (if t256 = true then ((impl_HostOk.f k t254).bind fun t257 => (laws_FnHosts.j0 k l0 t253 t254 true (!t257))) else (laws_FnHosts.j0 k l0 t253 t254 true true))) = some r := by rw [if_pos rfl] at H; exact H
        clear H
        have H := H1
        clear H1
        replace H := Option.bind_eq_some_iff.mp H
        obtain ⟨t256, A100, H⟩ := H
        replace H : (if t256 = true then ((impl_HostOk.f k t254).bind fun t257 => (laws_FnHosts.j0 k l0 t253 t254 true (!t257))) else (laws_FnHosts.j0 k l0 t253 t254 true true)) = some r := H
        have A10 := Aside0.mk A100
        clear A100
        by_cases c11 : t256 = true
        · subst c11
          have H1 : ((impl_HostOk.f k t254).bind fun t257 => (laws_FnHosts.j0 k l0 t253 t254 true (!t257))) = some r := by rw [if_pos rfl] at H; exact H
          clear H
          have H := H1
          clear H1
          replace H := Option.bind_eq_some_iff.mp H
          obtain ⟨t257, A120, H⟩ := H
          replace H : (laws_FnHosts.j0 k l0 t253 t254 true (!t257)) = some r := H
          have A12 := Aside0.mk A120
          clear A120
          have H' := Aside0.mk H
          clear H
          go_wp2_with (first | (go_at_call 31; (with_reducible refine (impl_PatternOk.calls k t253 true _ A10.out).mono ?_); rintro e w13 ⟨rfl, hb⟩; have n0_ := Aside0.mk (below_step (by repeat (first | (with_reducible first | exact HB.out | apply below_alloc | apply pw_below_drewN | apply below_drew1) | exact HB.out)) hb); clear HB; have HB := n0_; clear n0_; (try clear hb); (try clear hb2); (try clear hk); (try clear hi)) | (go_at_call 27; (with_reducible refine (impl_HostOk.calls k t254 t257 _ A12.out).mono ?_); rintro e w14 ⟨rfl, hb⟩; have n0_ := Aside0.mk (below_step (by repeat (first | (with_reducible first | exact HB.out | apply below_alloc | apply pw_below_drewN | apply below_drew1) | exact HB.out)) hb); clear HB; have HB := n0_; clear n0_; (try clear hb); (try clear hb2); (try clear hk); (try clear hi)))
          go_meet
          case rel => exact ⟨_, (!t257), (by first | rfl | (simp; done) | (simp [*]; done)), H', ⟨by first | omega | exact Nat.le_refl _⟩, ⟨by repeat (first | (with_reducible first | exact HB.out | apply below_alloc | apply pw_below_drewN | apply below_drew1) | exact HB.out)⟩⟩
        · replace c11 := Bool.eq_false_iff.mpr c11
          subst c11
          have H1 : (laws_FnHosts.j0 k l0 t253 t254 true true) = some r := by rw [if_neg (show ¬ (false = true) by decide)] at H; exact H
          clear H
          have H := H1
          clear H1
          have H' := Aside0.mk H
          clear H
          go_wp2_with (first | (go_at_call 31; (with_reducible refine (impl_PatternOk.calls k t253 false _ A10.out).mono ?_); rintro e w15 ⟨rfl, hb⟩; have n0_ := Aside0.mk (below_step (by repeat (first | (with_reducible first | exact HB.out | apply below_alloc | apply pw_below_drewN | apply below_drew1) | exact HB.out)) hb); clear HB; have HB := n0_; clear n0_; (try clear hb); (try clear hb2); (try clear hk); (try clear hi)))
          go_meet
          case rel => exact ⟨_, (true), (by first | rfl | (simp; done) | (simp [*]; done)), H', ⟨by first | omega | exact Nat.le_refl _⟩, ⟨by repeat (first | (with_reducible first | exact HB.out | apply below_alloc | apply pw_below_drewN | apply below_drew1) | exact HB.out)⟩⟩
      · replace c9 := Bool.eq_false_iff.mpr c9
        subst c9
        have H1 : (laws_FnHosts.j0 k l0 t253 t254 false false) = some r := by rw [if_neg (show ¬ (false = true) by decide)] at H; exact H
        clear H
        have H := H1
        clear H1
        have H' := Aside0.mk H
        clear H
        go_wp2
        go_meet
        case rel => exact ⟨_, (false), (by first | rfl | (simp; done) | (simp [*]; done)), H', ⟨by first | omega | exact Nat.le_refl _⟩, ⟨by repeat (first | (with_reducible first | exact HB.out | apply below_alloc | apply pw_below_drewN | apply below_drew1) | exact HB.out)⟩⟩
    case rest =>
      clear HC6
      try clear c1
      try clear p2
      try clear c3
      try clear c9
      try clear c10
      try clear c11
      obtain ⟨kq, x28_5, rfl, HA, HJ5, HB⟩ := hcut
      cases kq with
      | zero => exact absurd HA.out (by simp [laws_FnHosts.j0])
      | succ kj5 =>
        have H := HA.out
        clear HA
        simp only [laws_FnHosts.j0] at H
        by_cases c16 : x28_5 = true
        · subst c16
          have H1 : (some false) = some r := by rw [if_pos rfl] at H; exact H
          clear H
          have H := H1
          clear H1
          obtain rfl := Option.some.inj H
          go_wp2
          go_ret
          exact ⟨by first | rfl | (simp [errW_none, errW_some] <;> rfl) | (simp [*, errW_none, errW_some] <;> rfl), by repeat (first | (with_reducible first | exact HB.out | apply below_alloc | apply pw_below_drewN | apply below_drew1) | exact HB.out)⟩
        · replace c16 := Bool.eq_false_iff.mpr c16
          subst c16
          have H1 : (if t255 = true then (if (t253.size : Int) > 2 then (if 0 ≤ 2 then (if 2 ≤ (t253.size : Int) then (laws_FnHosts.j1 kj5 l0 t253 t254 ((t253.extract 0 2).toList == ([42, 46] : List UInt8))) else (none)) else (none)) else (laws_FnHosts.j1 kj5 l0 t253 t254 false)) else (laws_FnHosts.j1 kj5 l0 t253 t254 false)) = some r := by rw [if_neg (show ¬ (false = true) by decide)] at H; exact H
          clear H
          have H := H1
          clear H1
          have HC17 := Aside0.mk H
          clear H
          go_upto_region 7 with (fail)
          go_cut [39] (fun v39 wc => ∃ (kq : Nat) (x39_16 : Bool), v39 = .bool x39_16 ∧ Aside0 (laws_FnHosts.j1 kq l0 t253 t254 x39_16 = some r) ∧ Aside0 (kq ≤ kj5) ∧ Aside0 (Below w.heap.size w wc))
          case first =>
            have H := HC17.out
            clear HC17
            by_cases c18 : t255 = true
            · subst c18
              have H1 : (if (t253.size : Int) > 2 then (if 0 ≤ 2 then (if 2 ≤ (t253.size : Int) then (laws_FnHosts.j1 kj5 l0 t253 t254 ((t253.extract 0 2).toList == ([42, 46] : List UInt8))) else (none)) else (none)) else (laws_FnHosts.j1 kj5 l0 t253 t254 false)) = some r := by rw [if_pos rfl] at H; exact H
              clear H
              have H := H1
              clear H1
              by_cases c19 : (t253.size : Int) > 2
              · rw [if_pos c19] at H
                have c19b0 : decide (2 < (t253.size : Int)) = true := decide_eq_true c19
                have c19b1 : decide (2 < t253.size) = true := decide_eq_true (by omega)
                clear c19
                (first | rw [c19b0] | (simp only [i64_w, i32_w]; rw [c19b0]) | skip)
                by_cases c20 : 0 ≤ 2
                · rw [if_pos c20] at H
                  have c20b0 := eq_true c20
                  have c20b1 : decide (0 ≤ 2) = true := decide_eq_true c20
                  clear c20
                  by_cases c21 : 2 ≤ (t253.size : Int)
                  · rw [if_pos c21] at H
                    have c21b0 := eq_true c21
                    have c21b1 : decide (2 ≤ (t253.size : Int)) = true := decide_eq_true c21
                    clear c21
                    have H' := Aside0.mk H
                    clear H
                    go_wp2
                    go_meet
                    case rel => exact ⟨_, (((t253.extract 0 2).toList == ([42, 46] : List UInt8))), (by first | rfl | (simp; done) | (simp [*]; done)), H', ⟨by have := HJ5.out; first | omega | exact Nat.le_refl _⟩, ⟨by repeat (first | (with_reducible first | exact HB.out | apply below_alloc | apply pw_below_drewN | apply below_drew1) | exact HB.out)⟩⟩
                  · rw [if_neg c21] at H
                    exact absurd H (by simp)
                · rw [if_neg c20] at H
                  exact absurd H (by simp)
              · rw [if_neg c19] at H
                have c19b0 : decide (2 < (t253.size : Int)) = false := decide_eq_false c19
                have c19b1 : decide (2 < t253.size) = false := decide_eq_false (by omega)
                clear c19
                (first | rw [c19b0] | (simp only [i64_w, i32_w]; rw [c19b0]) | skip)
                have H' := Aside0.mk H
                clear H
                go_wp2
                go_meet
                case rel => exact ⟨_, (false), (by first | rfl | (simp; done) | (simp [*]; done)), H', ⟨by have := HJ5.out; first | omega | exact Nat.le_refl _⟩, ⟨by repeat (first | (with_reducible first | exact HB.out | apply below_alloc | apply pw_below_drewN | apply below_drew1) | exact HB.out)⟩⟩
            · replace c18 := Bool.eq_false_iff.mpr c18
              subst c18
              have H1 : (laws_FnHosts.j1 kj5 l0 t253 t254 false) = some r := by rw [if_neg (show ¬ (false = true) by decide)] at H; exact H
              clear H
              have H := H1
              clear H1
              have H' := Aside0.mk H
              clear H
              go_wp2
              go_meet
              case rel => exact ⟨_, (false), (by first | rfl | (simp; done) | (simp [*]; done)), H', ⟨by have := HJ5.out; first | omega | exact Nat.le_refl _⟩, ⟨by repeat (first | (with_reducible first | exact HB.out | apply below_alloc | apply pw_below_drewN | apply below_drew1) | exact HB.out)⟩⟩
          case rest =>
            clear HC17
            try clear c1
            try clear c2
            try clear p2
            try clear c3
            try clear c9
            try clear c10
            try clear c11
            try clear c16
            try clear c18
            try clear c19
            try clear c19b0
            try clear c19b1
            try clear c20
            try clear c20b0
            try clear c20b1
            try clear c21
            try clear c21b0
            try clear c21b1
            try clear p2
            obtain ⟨kq, x39_16, rfl, HA, HJ16, HB⟩ := hcut
            cases kq with
            | zero => exact absurd HA.out (by simp [laws_FnHosts.j1])
            | succ kj16 =>
              have H := HA.out
              clear HA
              simp only [laws_FnHosts.j1] at H
              have HC22 := Aside0.mk H
              clear H
              go_upto_if 39 with (fail)
              go_cut [] (fun wc => ∃ (kq : Nat), Aside0 (laws_FnHosts.j2 kq l0 t254 = some r) ∧ Aside0 (kq ≤ kj16) ∧ Aside0 (Below w.heap.size w wc))
              case first =>
                have H := HC22.out
                clear HC22
                by_cases c23 : x39_16 = true
                · subst c23
                  have H1 : (if 2 ≤ (t253.size : Int) then ((impl_Under.f kj16 (t253.extract 2 t253.size) t254).bind fun t258 => (if t258 = true then (if (t253.extract 2 t253.size).toList = t254.toList then (some false) else (if 2 + t254.size ≤ 9223372036854775807 then ((impl_HostMatch.f kj16 t253 ((⟨#[120, 46]⟩ : ByteArray) ++ t254)).bind fun t259 => (if t259 = true then (some false) else ((impl_HostMatch.f kj16 t253 (t253.extract 2 t253.size)).bind fun t260 => (if t260 = true then (some false) else (laws_FnHosts.j2 kj16 l0 t254))))) else (none))) else (some false))) else (none)) = some r := by rw [if_pos rfl] at H; exact H
                  clear H
                  have H := H1
                  clear H1
                  by_cases c24 : 2 ≤ (t253.size : Int)
                  · rw [if_pos c24] at H
                    have c24b0 := eq_true c24
                    have c24b1 : decide (2 ≤ (t253.size : Int)) = true := decide_eq_true c24
                    clear c24
                    replace H := Option.bind_eq_some_iff.mp H
                    obtain ⟨t258, A250, H⟩ := H
                    replace H : (if t258 = true then (if (t253.extract 2 t253.size).toList = t254.toList then (some false) else (if 2 + t254.size ≤ 9223372036854775807 then ((impl_HostMatch.f kj16 t253 ((⟨#[120, 46]⟩ : ByteArray) ++ t254)).bind fun t259 => (if t259 = true then (some false) else ((impl_HostMatch.f kj16 t253 (t253.extract 2 t253.size)).bind fun t260 => (if t260 = true then (some false) else (laws_FnHosts.j2 kj16 l0 t254))))) else (none))) else (some false)) = some r := H
                    have A25 := Aside0.mk A250
                    clear A250
                    by_cases c26 : t258 = true
                    · subst c26
                      have H1 : (if (t253.extract 2 t253.size).toList = t254.toList then (some false) else (if 2 + t254.size ≤ 9223372036854775807 then ((impl_HostMatch.f kj16 t253 ((⟨#[120, 46]⟩ : ByteArray) ++ t254)).bind fun t259 => (if t259 = true then (some false) else ((impl_HostMatch.f kj16 t253 (t253.extract 2 t253.size)).bind fun t260 => (if t260 = true then (some false) else (laws_FnHosts.j2 kj16 l0 t254))))) else (none))) = some r := by rw [if_pos rfl] at H; exact H
                      clear H
                      have H := H1
                      clear H1
                      have c27b0 := eq_true (of_decide_eq_true (by first | (with_reducible assumption) | assumption) : 2 ≤ (t253.size : Int))
                      by_cases c28 : (t253.extract 2 t253.size).toList = t254.toList
                      · rw [if_pos c28] at H
                        have c28b0 : ((t253.extract 2 t253.size).toList == t254.toList) = true := beq_iff_eq.mpr c28
                        have c28b1 : ((t253.extract 2 t253.size).toList != t254.toList) = false := bne_eq_false_iff_eq.mpr c28
                        clear c28
                        (first | rw [c28b0] | (simp only [i64_w, i32_w]; rw [c28b0]) | skip)
                        obtain rfl := Option.some.inj H
                        go_wp2_with (first | ((with_reducible refine gate_callee (f := 29) rfl ?_); refine goesL_ (some 43) rfl rfl Tryd.func29 (by kernel_rfl) rfl #[.string (t253.extract 2 t253.size), .string t254] rfl (by (try simp only [List.map_toArray, List.map_cons, List.map_nil]); first | done | rfl | (simp only [List.length_drop, List.length_take]; rfl)) ?_; (with_reducible refine (impl_Under.calls kj16 (t253.extract 2 t253.size) t254 true _ A25.out).mono ?_); rintro e w29 ⟨rfl, hb⟩; refine ⟨_, rfl, ?_⟩; have n0_ := Aside0.mk (below_step (by repeat (first | (with_reducible first | exact HB.out | apply below_alloc | apply pw_below_drewN | apply below_drew1) | exact HB.out)) hb); clear HB; have HB := n0_; clear n0_; (try clear hb); (try clear hb2); (try clear hk); (try clear hi)))
                        go_ret
                        exact ⟨by first | rfl | (simp [errW_none, errW_some] <;> rfl) | (simp [*, errW_none, errW_some] <;> rfl), by repeat (first | (with_reducible first | exact HB.out | apply below_alloc | apply pw_below_drewN | apply below_drew1) | exact HB.out)⟩
                      · rw [if_neg c28] at H
                        have c28b0 : ((t253.extract 2 t253.size).toList == t254.toList) = false := beq_eq_false_iff_ne.mpr c28
                        have c28b1 : ((t253.extract 2 t253.size).toList != t254.toList) = true := bne_iff_ne.mpr c28
                        (first | rw [c28b0] | (simp only [i64_w, i32_w]; rw [c28b0]) | skip)
                        by_cases c30 : 2 + t254.size ≤ 9223372036854775807
                        · rw [if_pos c30] at H
                          have c30b0 := eq_true c30
                          have c30b1 : decide (2 + t254.size ≤ 9223372036854775807) = true := decide_eq_true c30
                          try have c30b2 : (9223372036854775807 < 2 + t254.size) = False := eq_false (Nat.not_lt.2 c30)
                          try (have c30b3 := c30; simp only [ByteArray.size_append] at c30b3)
                          replace H := Option.bind_eq_some_iff.mp H
                          obtain ⟨t259, A310, H⟩ := H
                          replace H : (if t259 = true then (some false) else ((impl_HostMatch.f kj16 t253 (t253.extract 2 t253.size)).bind fun t260 => (if t260 = true then (some false) else (laws_FnHosts.j2 kj16 l0 t254)))) = some r := H
                          have A31 := Aside0.mk A310
                          clear A310
                          by_cases c32 : t259 = true
                          · subst c32
                            have H1 : (some false) = some r := by rw [if_pos rfl] at H; exact H
                            clear H
                            have H := H1
                            clear H1
                            obtain rfl := Option.some.inj H
                            go_wp2_with (first | ((with_reducible refine gate_callee (f := 29) rfl ?_); refine goesL_ (some 43) rfl rfl Tryd.func29 (by kernel_rfl) rfl #[.string (t253.extract 2 t253.size), .string t254] rfl (by (try simp only [List.map_toArray, List.map_cons, List.map_nil]); first | done | rfl | (simp only [List.length_drop, List.length_take]; rfl)) ?_; (with_reducible refine (impl_Under.calls kj16 (t253.extract 2 t253.size) t254 true _ A25.out).mono ?_); rintro e w33 ⟨rfl, hb⟩; refine ⟨_, rfl, ?_⟩; have n0_ := Aside0.mk (below_step (by repeat (first | (with_reducible first | exact HB.out | apply below_alloc | apply pw_below_drewN | apply below_drew1) | exact HB.out)) hb); clear HB; have HB := n0_; clear n0_; (try clear hb); (try clear hb2); (try clear hk); (try clear hi)) | (go_at_call 33; (with_reducible refine (impl_HostMatch.calls kj16 t253 ((⟨#[120, 46]⟩ : ByteArray) ++ t254) true _ A31.out).mono ?_); rintro e w34 ⟨rfl, hb⟩; have n0_ := Aside0.mk (below_step (by repeat (first | (with_reducible first | exact HB.out | apply below_alloc | apply pw_below_drewN | apply below_drew1) | exact HB.out)) hb); clear HB; have HB := n0_; clear n0_; (try clear hb); (try clear hb2); (try clear hk); (try clear hi)))
                            go_ret
                            exact ⟨by first | rfl | (simp [errW_none, errW_some] <;> rfl) | (simp [*, errW_none, errW_some] <;> rfl), by repeat (first | (with_reducible first | exact HB.out | apply below_alloc | apply pw_below_drewN | apply below_drew1) | exact HB.out)⟩
                          · replace c32 := Bool.eq_false_iff.mpr c32
                            subst c32
                            have H1 : ((impl_HostMatch.f kj16 t253 (t253.extract 2 t253.size)).bind fun t260 => (if t260 = true then (some false) else (laws_FnHosts.j2 kj16 l0 t254))) = some r := by rw [if_neg (show ¬ (false = true) by decide)] at H; exact H
                            clear H
                            have H := H1
                            clear H1
                            have c35b0 := eq_true (of_decide_eq_true (by first | (with_reducible assumption) | assumption) : 2 ≤ (t253.size : Int))
                            replace H := Option.bind_eq_some_iff.mp H
                            obtain ⟨t260, A360, H⟩ := H
                            replace H : (if t260 = true then (some false) else (laws_FnHosts.j2 kj16 l0 t254)) = some r := H
                            have A36 := Aside0.mk A360
                            clear A360
                            by_cases c37 : t260 = true
                            · subst c37
                              have H1 : (some false) = some r := by rw [if_pos rfl] at H; exact H
                              clear H
                              have H := H1
                              clear H1
                              obtain rfl := Option.some.inj H
                              go_wp2_with (first | ((with_reducible refine gate_callee (f := 29) rfl ?_); refine goesL_ (some 43) rfl rfl Tryd.func29 (by kernel_rfl) rfl #[.string (t253.extract 2 t253.size), .string t254] rfl (by (try simp only [List.map_toArray, List.map_cons, List.map_nil]); first | done | rfl | (simp only [List.length_drop, List.length_take]; rfl)) ?_; (with_reducible refine (impl_Under.calls kj16 (t253.extract 2 t253.size) t254 true _ A25.out).mono ?_); rintro e w38 ⟨rfl, hb⟩; refine ⟨_, rfl, ?_⟩; have n0_ := Aside0.mk (below_step (by repeat (first | (with_reducible first | exact HB.out | apply below_alloc | apply pw_below_drewN | apply below_drew1) | exact HB.out)) hb); clear HB; have HB := n0_; clear n0_; (try clear hb); (try clear hb2); (try clear hk); (try clear hi)) | (go_at_call 33; (with_reducible refine (impl_HostMatch.calls kj16 t253 ((⟨#[120, 46]⟩ : ByteArray) ++ t254) false _ A31.out).mono ?_); rintro e w39 ⟨rfl, hb⟩; have n0_ := Aside0.mk (below_step (by repeat (first | (with_reducible first | exact HB.out | apply below_alloc | apply pw_below_drewN | apply below_drew1) | exact HB.out)) hb); clear HB; have HB := n0_; clear n0_; (try clear hb); (try clear hb2); (try clear hk); (try clear hi)) | (go_at_call 33; (with_reducible refine (impl_HostMatch.calls kj16 t253 (t253.extract 2 t253.size) true _ A36.out).mono ?_); rintro e w40 ⟨rfl, hb⟩; have n0_ := Aside0.mk (below_step (by repeat (first | (with_reducible first | exact HB.out | apply below_alloc | apply pw_below_drewN | apply below_drew1) | exact HB.out)) hb); clear HB; have HB := n0_; clear n0_; (try clear hb); (try clear hb2); (try clear hk); (try clear hi)))
                              go_ret
                              exact ⟨by first | rfl | (simp [errW_none, errW_some] <;> rfl) | (simp [*, errW_none, errW_some] <;> rfl), by repeat (first | (with_reducible first | exact HB.out | apply below_alloc | apply pw_below_drewN | apply below_drew1) | exact HB.out)⟩
                            · replace c37 := Bool.eq_false_iff.mpr c37
                              subst c37
                              have H1 : (laws_FnHosts.j2 kj16 l0 t254) = some r := by rw [if_neg (show ¬ (false = true) by decide)] at H; exact H
                              clear H
                              have H := H1
                              clear H1
                              have H' := Aside0.mk H
                              clear H
                              go_wp2_with (first | ((with_reducible refine gate_callee (f := 29) rfl ?_); refine goesL_ (some 43) rfl rfl Tryd.func29 (by kernel_rfl) rfl #[.string (t253.extract 2 t253.size), .string t254] rfl (by (try simp only [List.map_toArray, List.map_cons, List.map_nil]); first | done | rfl | (simp only [List.length_drop, List.length_take]; rfl)) ?_; (with_reducible refine (impl_Under.calls kj16 (t253.extract 2 t253.size) t254 true _ A25.out).mono ?_); rintro e w41 ⟨rfl, hb⟩; refine ⟨_, rfl, ?_⟩; have n0_ := Aside0.mk (below_step (by repeat (first | (with_reducible first | exact HB.out | apply below_alloc | apply pw_below_drewN | apply below_drew1) | exact HB.out)) hb); clear HB; have HB := n0_; clear n0_; (try clear hb); (try clear hb2); (try clear hk); (try clear hi)) | (go_at_call 33; (with_reducible refine (impl_HostMatch.calls kj16 t253 ((⟨#[120, 46]⟩ : ByteArray) ++ t254) false _ A31.out).mono ?_); rintro e w42 ⟨rfl, hb⟩; have n0_ := Aside0.mk (below_step (by repeat (first | (with_reducible first | exact HB.out | apply below_alloc | apply pw_below_drewN | apply below_drew1) | exact HB.out)) hb); clear HB; have HB := n0_; clear n0_; (try clear hb); (try clear hb2); (try clear hk); (try clear hi)) | (go_at_call 33; (with_reducible refine (impl_HostMatch.calls kj16 t253 (t253.extract 2 t253.size) false _ A36.out).mono ?_); rintro e w43 ⟨rfl, hb⟩; have n0_ := Aside0.mk (below_step (by repeat (first | (with_reducible first | exact HB.out | apply below_alloc | apply pw_below_drewN | apply below_drew1) | exact HB.out)) hb); clear HB; have HB := n0_; clear n0_; (try clear hb); (try clear hb2); (try clear hk); (try clear hi)))
                              go_meet
                              case rel => exact ⟨_, H', ⟨by have := HJ5.out; have := HJ16.out; first | omega | exact Nat.le_refl _⟩, ⟨by repeat (first | (with_reducible first | exact HB.out | apply below_alloc | apply pw_below_drewN | apply below_drew1) | exact HB.out)⟩⟩
                        · rw [if_neg c30] at H
                          exact absurd H (by simp)
                    · replace c26 := Bool.eq_false_iff.mpr c26
                      subst c26
                      have H1 : (some false) = some r := by rw [if_neg (show ¬ (false = true) by decide)] at H; exact H
                      clear H
                      have H := H1
                      clear H1
                      obtain rfl := Option.some.inj H
                      go_wp2_with (first | ((with_reducible refine gate_callee (f := 29) rfl ?_); refine goesL_ (some 43) rfl rfl Tryd.func29 (by kernel_rfl) rfl #[.string (t253.extract 2 t253.size), .string t254] rfl (by (try simp only [List.map_toArray, List.map_cons, List.map_nil]); first | done | rfl | (simp only [List.length_drop, List.length_take]; rfl)) ?_; (with_reducible refine (impl_Under.calls kj16 (t253.extract 2 t253.size) t254 false _ A25.out).mono ?_); rintro e w44 ⟨rfl, hb⟩; refine ⟨_, rfl, ?_⟩; have n0_ := Aside0.mk (below_step (by repeat (first | (with_reducible first | exact HB.out | apply below_alloc | apply pw_below_drewN | apply below_drew1) | exact HB.out)) hb); clear HB; have HB := n0_; clear n0_; (try clear hb); (try clear hb2); (try clear hk); (try clear hi)))
                      go_ret
                      exact ⟨by first | rfl | (simp [errW_none, errW_some] <;> rfl) | (simp [*, errW_none, errW_some] <;> rfl), by repeat (first | (with_reducible first | exact HB.out | apply below_alloc | apply pw_below_drewN | apply below_drew1) | exact HB.out)⟩
                  · rw [if_neg c24] at H
                    exact absurd H (by simp)
                · replace c23 := Bool.eq_false_iff.mpr c23
                  subst c23
                  have H1 : (laws_FnHosts.j2 kj16 l0 t254) = some r := by rw [if_neg (show ¬ (false = true) by decide)] at H; exact H
                  clear H
                  have H := H1
                  clear H1
                  have H' := Aside0.mk H
                  clear H
                  go_wp2
                  go_meet
                  case rel => exact ⟨_, H', ⟨by have := HJ5.out; have := HJ16.out; first | omega | exact Nat.le_refl _⟩, ⟨by repeat (first | (with_reducible first | exact HB.out | apply below_alloc | apply pw_below_drewN | apply below_drew1) | exact HB.out)⟩⟩
              case rest =>
                clear HC22
                try clear c1
                try clear c2
                try clear p2
                try clear c3
                try clear c9
                try clear c10
                try clear c11
                try clear c16
                try clear c18
                try clear c19
                try clear c19b0
                try clear c19b1
                try clear c20
                try clear c20b0
                try clear c20b1
                try clear c21
                try clear c21b0
                try clear c21b1
                try clear c23
                try clear c24
                try clear c24b0
                try clear c24b1
                try clear c26
                try clear c27
                try clear c27b0
                try clear c28
                try clear c28b0
                try clear c28b1
                try clear c29
                try clear c30
                try clear c30b0
                try clear c30b1
                try clear c30b2
                try clear c32
                try clear c33
                try clear c34
                try clear c35
                try clear c35b0
                try clear c37
                try clear p2
                obtain ⟨kq, HA, HJ21, HB⟩ := hcut
                cases kq with
                | zero => exact absurd HA.out (by simp [laws_FnHosts.j2])
                | succ kj21 =>
                  have H := HA.out
                  clear HA
                  simp only [laws_FnHosts.j2] at H
                  have HC45 := Aside0.mk H
                  clear H
                  go_upto_region 10 with (fail)
                  go_cut [82] (fun v82 wc => ∃ (kq : Nat) (x82_44 : Bool), v82 = .bool x82_44 ∧ Aside0 (laws_FnHosts.j3 kq l0 x82_44 = some r) ∧ Aside0 (kq ≤ kj21) ∧ Aside0 (Below w.heap.size w wc))
                  case first =>
                    have H := HC45.out
                    clear HC45
                    replace H := Option.bind_eq_some_iff.mp H
                    obtain ⟨t261, A460, H⟩ := H
                    replace H : (if t261 = true then ((impl_Under.f kj21 t254 t254).bind fun t262 => (if t262 = true then ((impl_HostMatch.f kj21 t254 t254).bind fun t263 => (if t263 = true then ((Hand.impl_Lower.f t254).bind fun t264 => (laws_FnHosts.j3 kj21 l0 (t264.toList != t254.toList))) else (laws_FnHosts.j3 kj21 l0 true))) else (laws_FnHosts.j3 kj21 l0 true))) else (laws_FnHosts.j3 kj21 l0 false)) = some r := H
                    have A46 := Aside0.mk A460
                    clear A460
                    by_cases c47 : t261 = true
                    · subst c47
                      have H1 : ((impl_Under.f kj21 t254 t254).bind fun t262 => (if t262 = true then ((impl_HostMatch.f kj21 t254 t254).bind fun t263 => (if t263 = true then ((Hand.impl_Lower.f t254).bind fun t264 => (laws_FnHosts.j3 kj21 l0 (t264.toList != t254.toList))) else (laws_FnHosts.j3 kj21 l0 true))) else (laws_FnHosts.j3 kj21 l0 true))) = some r := by rw [if_pos rfl] at H; exact H
                      clear H
                      have H := H1
                      clear H1
                      replace H := Option.bind_eq_some_iff.mp H
                      obtain ⟨t262, A480, H⟩ := H
                      replace H : (if t262 = true then ((impl_HostMatch.f kj21 t254 t254).bind fun t263 => (if t263 = true then ((Hand.impl_Lower.f t254).bind fun t264 => (laws_FnHosts.j3 kj21 l0 (t264.toList != t254.toList))) else (laws_FnHosts.j3 kj21 l0 true))) else (laws_FnHosts.j3 kj21 l0 true)) = some r := H
                      have A48 := Aside0.mk A480
                      clear A480
                      by_cases c49 : t262 = true
                      · subst c49
                        have H1 : ((impl_HostMatch.f kj21 t254 t254).bind fun t263 => (if t263 = true then ((Hand.impl_Lower.f t254).bind fun t264 => (laws_FnHosts.j3 kj21 l0 (t264.toList != t254.toList))) else (laws_FnHosts.j3 kj21 l0 true))) = some r := by rw [if_pos rfl] at H; exact H
                        clear H
                        have H := H1
                        clear H1
                        replace H := Option.bind_eq_some_iff.mp H
                        obtain ⟨t263, A500, H⟩ := H
                        replace H : (if t263 = true then ((Hand.impl_Lower.f t254).bind fun t264 => (laws_FnHosts.j3 kj21 l0 (t264.toList != t254.toList))) else (laws_FnHosts.j3 kj21 l0 true)) = some r := H
                        have A50 := Aside0.mk A500
                        clear A500
                        by_cases c51 : t263 = true
                        · subst c51
                          have H1 : ((Hand.impl_Lower.f t254).bind fun t264 => (laws_FnHosts.j3 kj21 l0 (t264.toList != t254.toList))) = some r := by rw [if_pos rfl] at H; exact H
                          clear H
                          have H := H1
                          clear H1
                          replace H := Option.bind_eq_some_iff.mp H
                          obtain ⟨t264, A520, H⟩ := H
                          replace H : (laws_FnHosts.j3 kj21 l0 (t264.toList != t254.toList)) = some r := H
                          have A52 := Aside0.mk A520
                          clear A520
                          have H' := Aside0.mk H
                          clear H
                          go_wp2_with (first | ((with_reducible refine gate_callee (f := 27) rfl ?_); refine goesL_ (some 64) rfl rfl Tryd.func27 (by kernel_rfl) rfl #[.string t254] rfl (by (try simp only [List.map_toArray, List.map_cons, List.map_nil]); first | done | rfl | (simp only [List.length_drop, List.length_take]; rfl)) ?_; (with_reducible refine (impl_HostOk.calls kj21 t254 true _ A46.out).mono ?_); rintro e w53 ⟨rfl, hb⟩; refine ⟨_, rfl, ?_⟩; have n0_ := Aside0.mk (below_step (by repeat (first | (with_reducible first | exact HB.out | apply below_alloc | apply pw_below_drewN | apply below_drew1) | exact HB.out)) hb); clear HB; have HB := n0_; clear n0_; (try clear hb); (try clear hb2); (try clear hk); (try clear hi)) | (go_at_call 29; (with_reducible refine (impl_Under.calls kj21 t254 t254 true _ A48.out).mono ?_); rintro e w54 ⟨rfl, hb⟩; have n0_ := Aside0.mk (below_step (by repeat (first | (with_reducible first | exact HB.out | apply below_alloc | apply pw_below_drewN | apply below_drew1) | exact HB.out)) hb); clear HB; have HB := n0_; clear n0_; (try clear hb); (try clear hb2); (try clear hk); (try clear hi)) | (go_at_call 33; (with_reducible refine (impl_HostMatch.calls kj21 t254 t254 true _ A50.out).mono ?_); rintro e w55 ⟨rfl, hb⟩; have n0_ := Aside0.mk (below_step (by repeat (first | (with_reducible first | exact HB.out | apply below_alloc | apply pw_below_drewN | apply below_drew1) | exact HB.out)) hb); clear HB; have HB := n0_; clear n0_; (try clear hb); (try clear hb2); (try clear hk); (try clear hi)) | (go_at_call 35; (with_reducible refine (Hand.impl_Lower.calls t254 t264 _ A52.out).mono ?_); rintro e w56 ⟨rfl, hb⟩; have n0_ := Aside0.mk (below_step (by repeat (first | (with_reducible first | exact HB.out | apply below_alloc | apply pw_below_drewN | apply below_drew1) | exact HB.out)) hb); clear HB; have HB := n0_; clear n0_; (try clear hb); (try clear hb2); (try clear hk); (try clear hi)))
                          go_meet
                          case rel => exact ⟨_, ((t264.toList != t254.toList)), (by first | rfl | (simp; done) | (simp [*]; done)), H', ⟨by have := HJ5.out; have := HJ16.out; have := HJ21.out; first | omega | exact Nat.le_refl _⟩, ⟨by repeat (first | (with_reducible first | exact HB.out | apply below_alloc | apply pw_below_drewN | apply below_drew1) | exact HB.out)⟩⟩
                        · replace c51 := Bool.eq_false_iff.mpr c51
                          subst c51
                          have H1 : (laws_FnHosts.j3 kj21 l0 true) = some r := by rw [if_neg (show ¬ (false = true) by decide)] at H; exact H
                          clear H
                          have H := H1
                          clear H1
                          have H' := Aside0.mk H
                          clear H
                          go_wp2_with (first | ((with_reducible refine gate_callee (f := 27) rfl ?_); refine goesL_ (some 64) rfl rfl Tryd.func27 (by kernel_rfl) rfl #[.string t254] rfl (by (try simp only [List.map_toArray, List.map_cons, List.map_nil]); first | done | rfl | (simp only [List.length_drop, List.length_take]; rfl)) ?_; (with_reducible refine (impl_HostOk.calls kj21 t254 true _ A46.out).mono ?_); rintro e w57 ⟨rfl, hb⟩; refine ⟨_, rfl, ?_⟩; have n0_ := Aside0.mk (below_step (by repeat (first | (with_reducible first | exact HB.out | apply below_alloc | apply pw_below_drewN | apply below_drew1) | exact HB.out)) hb); clear HB; have HB := n0_; clear n0_; (try clear hb); (try clear hb2); (try clear hk); (try clear hi)) | (go_at_call 29; (with_reducible refine (impl_Under.calls kj21 t254 t254 true _ A48.out).mono ?_); rintro e w58 ⟨rfl, hb⟩; have n0_ := Aside0.mk (below_step (by repeat (first | (with_reducible first | exact HB.out | apply below_alloc | apply pw_below_drewN | apply below_drew1) | exact HB.out)) hb); clear HB; have HB := n0_; clear n0_; (try clear hb); (try clear hb2); (try clear hk); (try clear hi)) | (go_at_call 33; (with_reducible refine (impl_HostMatch.calls kj21 t254 t254 false _ A50.out).mono ?_); rintro e w59 ⟨rfl, hb⟩; have n0_ := Aside0.mk (below_step (by repeat (first | (with_reducible first | exact HB.out | apply below_alloc | apply pw_below_drewN | apply below_drew1) | exact HB.out)) hb); clear HB; have HB := n0_; clear n0_; (try clear hb); (try clear hb2); (try clear hk); (try clear hi)))
                          go_meet
                          case rel => exact ⟨_, (true), (by first | rfl | (simp; done) | (simp [*]; done)), H', ⟨by have := HJ5.out; have := HJ16.out; have := HJ21.out; first | omega | exact Nat.le_refl _⟩, ⟨by repeat (first | (with_reducible first | exact HB.out | apply below_alloc | apply pw_below_drewN | apply below_drew1) | exact HB.out)⟩⟩
                      · replace c49 := Bool.eq_false_iff.mpr c49
                        subst c49
                        have H1 : (laws_FnHosts.j3 kj21 l0 true) = some r := by rw [if_neg (show ¬ (false = true) by decide)] at H; exact H
                        clear H
                        have H := H1
                        clear H1
                        have H' := Aside0.mk H
                        clear H
                        go_wp2_with (first | ((with_reducible refine gate_callee (f := 27) rfl ?_); refine goesL_ (some 64) rfl rfl Tryd.func27 (by kernel_rfl) rfl #[.string t254] rfl (by (try simp only [List.map_toArray, List.map_cons, List.map_nil]); first | done | rfl | (simp only [List.length_drop, List.length_take]; rfl)) ?_; (with_reducible refine (impl_HostOk.calls kj21 t254 true _ A46.out).mono ?_); rintro e w60 ⟨rfl, hb⟩; refine ⟨_, rfl, ?_⟩; have n0_ := Aside0.mk (below_step (by repeat (first | (with_reducible first | exact HB.out | apply below_alloc | apply pw_below_drewN | apply below_drew1) | exact HB.out)) hb); clear HB; have HB := n0_; clear n0_; (try clear hb); (try clear hb2); (try clear hk); (try clear hi)) | (go_at_call 29; (with_reducible refine (impl_Under.calls kj21 t254 t254 false _ A48.out).mono ?_); rintro e w61 ⟨rfl, hb⟩; have n0_ := Aside0.mk (below_step (by repeat (first | (with_reducible first | exact HB.out | apply below_alloc | apply pw_below_drewN | apply below_drew1) | exact HB.out)) hb); clear HB; have HB := n0_; clear n0_; (try clear hb); (try clear hb2); (try clear hk); (try clear hi)))
                        go_meet
                        case rel => exact ⟨_, (true), (by first | rfl | (simp; done) | (simp [*]; done)), H', ⟨by have := HJ5.out; have := HJ16.out; have := HJ21.out; first | omega | exact Nat.le_refl _⟩, ⟨by repeat (first | (with_reducible first | exact HB.out | apply below_alloc | apply pw_below_drewN | apply below_drew1) | exact HB.out)⟩⟩
                    · replace c47 := Bool.eq_false_iff.mpr c47
                      subst c47
                      have H1 : (laws_FnHosts.j3 kj21 l0 false) = some r := by rw [if_neg (show ¬ (false = true) by decide)] at H; exact H
                      clear H
                      have H := H1
                      clear H1
                      have H' := Aside0.mk H
                      clear H
                      go_wp2_with (first | ((with_reducible refine gate_callee (f := 27) rfl ?_); refine goesL_ (some 64) rfl rfl Tryd.func27 (by kernel_rfl) rfl #[.string t254] rfl (by (try simp only [List.map_toArray, List.map_cons, List.map_nil]); first | done | rfl | (simp only [List.length_drop, List.length_take]; rfl)) ?_; (with_reducible refine (impl_HostOk.calls kj21 t254 false _ A46.out).mono ?_); rintro e w62 ⟨rfl, hb⟩; refine ⟨_, rfl, ?_⟩; have n0_ := Aside0.mk (below_step (by repeat (first | (with_reducible first | exact HB.out | apply below_alloc | apply pw_below_drewN | apply below_drew1) | exact HB.out)) hb); clear HB; have HB := n0_; clear n0_; (try clear hb); (try clear hb2); (try clear hk); (try clear hi)))
                      go_meet
                      case rel => exact ⟨_, (false), (by first | rfl | (simp; done) | (simp [*]; done)), H', ⟨by have := HJ5.out; have := HJ16.out; have := HJ21.out; first | omega | exact Nat.le_refl _⟩, ⟨by repeat (first | (with_reducible first | exact HB.out | apply below_alloc | apply pw_below_drewN | apply below_drew1) | exact HB.out)⟩⟩
                  case rest =>
                    clear HC45
                    try clear c1
                    try clear c2
                    try clear p2
                    try clear c3
                    try clear c4
                    try clear c5
                    try clear c9
                    try clear c10
                    try clear c11
                    try clear c16
                    try clear c18
                    try clear c19
                    try clear c19b0
                    try clear c19b1
                    try clear c20
                    try clear c20b0
                    try clear c20b1
                    try clear c21
                    try clear c21b0
                    try clear c21b1
                    try clear c23
                    try clear c24
                    try clear c24b0
                    try clear c24b1
                    try clear c26
                    try clear c27
                    try clear c27b0
                    try clear c28
                    try clear c28b0
                    try clear c28b1
                    try clear c29
                    try clear c30
                    try clear c30b0
                    try clear c30b1
                    try clear c30b2
                    try clear c32
                    try clear c33
                    try clear c34
                    try clear c35
                    try clear c35b0
                    try clear c37
                    try clear c47
                    try clear c49
                    try clear c51
                    try clear p2
                    obtain ⟨kq, x82_44, rfl, HA, HJ44, HB⟩ := hcut
                    cases kq with
                    | zero => exact absurd HA.out (by simp [laws_FnHosts.j3])
                    | succ kj44 =>
                      have H := HA.out
                      clear HA
                      simp only [laws_FnHosts.j3] at H
                      by_cases c63 : x82_44 = true
                      · subst c63
                        have H1 : (some false) = some r := by rw [if_pos rfl] at H; exact H
                        clear H
                        have H := H1
                        clear H1
                        obtain rfl := Option.some.inj H
                        go_wp2
                        go_ret
                        exact ⟨by first | rfl | (simp [errW_none, errW_some] <;> rfl) | (simp [*, errW_none, errW_some] <;> rfl), by repeat (first | (with_reducible first | exact HB.out | apply below_alloc | apply pw_below_drewN | apply below_drew1) | exact HB.out)⟩
                      · replace c63 := Bool.eq_false_iff.mpr c63
                        subst c63
                        have H1 : ((spec_DrawUnder.f kj44 l0).bind fun bt265 => ((impl_Under.f kj44 bt265.1 bt265.2).bind fun t267 => (if t267 = true then (if bt265.1.toList = bt265.2.toList then (laws_FnHosts.j4 kj44 false) else ((impl_Under.f kj44 bt265.2 bt265.1).bind fun t268 => (laws_FnHosts.j4 kj44 t268))) else (laws_FnHosts.j4 kj44 false)))) = some r := by rw [if_neg (show ¬ (false = true) by decide)] at H; exact H
                        clear H
                        have H := H1
                        clear H1
                        replace H := Option.bind_eq_some_iff.mp H
                        obtain ⟨⟨t265, t266⟩, A640, H⟩ := H
                        replace H : ((impl_Under.f kj44 t265 t266).bind fun t267 => (if t267 = true then (if t265.toList = t266.toList then (laws_FnHosts.j4 kj44 false) else ((impl_Under.f kj44 t266 t265).bind fun t268 => (laws_FnHosts.j4 kj44 t268))) else (laws_FnHosts.j4 kj44 false))) = some r := H
                        have A64 := Aside0.mk A640
                        clear A640
                        have HC65 := Aside0.mk H
                        clear H
                        go_upto_region 13 with (first | ((with_reducible refine gate_callee (f := 36) rfl ?_); refine goesL_ (some 85) rfl rfl Tryd.func36 (by kernel_rfl) rfl #[.slice A0 l0.length c0] rfl (by (try simp only [List.map_toArray, List.map_cons, List.map_nil]); first | done | rfl | (simp only [List.length_drop, List.length_take]; rfl)) ?_; (with_reducible refine (spec_DrawUnder.calls kj44 _ _ l0 t265 t266 _ ?side1 ?side2 A64.out).mono ?_); (case side1 => repeat (first | exact (Kd.C_below HR0.out HB.out) | (with_reducible refine Kd.C_alloc ?_ _) | (with_reducible refine Kd.C_drewN ?_ _) | (with_reducible refine Kd.C_drew ?_))); (case side2 => exact HC0.out); rintro e w66 ⟨rfl, hb⟩; refine ⟨_, rfl, ?_⟩; have n0_ := Aside0.mk (below_step (by repeat (first | (with_reducible first | exact HB.out | apply below_alloc | apply pw_below_drewN | apply below_drew1) | exact HB.out)) hb); clear HB; have HB := n0_; clear n0_; (try clear hb); (try clear hb2); (try clear hk); (try clear hi)))
                        (try simp only [Act.put, List.setIfInBounds_toArray, List.set_cons_zero, List.set_cons_succ])
                        go_cut [100] (fun v100 wc => ∃ (kq : Nat) (x100_64 : Bool), v100 = .bool x100_64 ∧ Aside0 (laws_FnHosts.j4 kq x100_64 = some r) ∧ Aside0 (kq ≤ kj44) ∧ Aside0 (Below w.heap.size w wc))
                        case first =>
                          have H := HC65.out
                          clear HC65
                          replace H := Option.bind_eq_some_iff.mp H
                          obtain ⟨t267, A670, H⟩ := H
                          replace H : (if t267 = true then (if t265.toList = t266.toList then (laws_FnHosts.j4 kj44 false) else ((impl_Under.f kj44 t266 t265).bind fun t268 => (laws_FnHosts.j4 kj44 t268))) else (laws_FnHosts.j4 kj44 false)) = some r := H
                          have A67 := Aside0.mk A670
                          clear A670
                          by_cases c68 : t267 = true
                          · subst c68
                            have H1 : (if t265.toList = t266.toList then (laws_FnHosts.j4 kj44 false) else ((impl_Under.f kj44 t266 t265).bind fun t268 => (laws_FnHosts.j4 kj44 t268))) = some r := by rw [if_pos rfl] at H; exact H
                            clear H
                            have H := H1
                            clear H1
                            by_cases c69 : t265.toList = t266.toList
                            · rw [if_pos c69] at H
                              have c69b0 : (t265.toList == t266.toList) = true := beq_iff_eq.mpr c69
                              have c69b1 : (t265.toList != t266.toList) = false := bne_eq_false_iff_eq.mpr c69
                              clear c69
                              (first | rw [c69b0] | (simp only [i64_w, i32_w]; rw [c69b0]) | skip)
                              have H' := Aside0.mk H
                              clear H
                              go_wp2_with (first | ((with_reducible refine gate_callee (f := 29) rfl ?_); refine goesL_ (some 90) rfl rfl Tryd.func29 (by kernel_rfl) rfl #[.string t265, .string t266] rfl (by (try simp only [List.map_toArray, List.map_cons, List.map_nil]); first | done | rfl | (simp only [List.length_drop, List.length_take]; rfl)) ?_; (with_reducible refine (impl_Under.calls kj44 t265 t266 true _ A67.out).mono ?_); rintro e w70 ⟨rfl, hb⟩; refine ⟨_, rfl, ?_⟩; have n0_ := Aside0.mk (below_step (by repeat (first | (with_reducible first | exact HB.out | apply below_alloc | apply pw_below_drewN | apply below_drew1) | exact HB.out)) hb); clear HB; have HB := n0_; clear n0_; (try clear hb); (try clear hb2); (try clear hk); (try clear hi)))
                              go_meet
                              case rel => exact ⟨_, (false), (by first | rfl | (simp; done) | (simp [*]; done)), H', ⟨by have := HJ5.out; have := HJ16.out; have := HJ21.out; have := HJ44.out; first | omega | exact Nat.le_refl _⟩, ⟨by repeat (first | (with_reducible first | exact HB.out | apply below_alloc | apply pw_below_drewN | apply below_drew1) | exact HB.out)⟩⟩
                            · rw [if_neg c69] at H
                              have c69b0 : (t265.toList == t266.toList) = false := beq_eq_false_iff_ne.mpr c69
                              have c69b1 : (t265.toList != t266.toList) = true := bne_iff_ne.mpr c69
                              (first | rw [c69b0] | (simp only [i64_w, i32_w]; rw [c69b0]) | skip)
                              replace H := Option.bind_eq_some_iff.mp H
                              obtain ⟨t268, A710, H⟩ := H
                              replace H : (laws_FnHosts.j4 kj44 t268) = some r := H
                              have A71 := Aside0.mk A710
                              clear A710
                              have H' := Aside0.mk H
                              clear H
                              go_wp2_with (first | ((with_reducible refine gate_callee (f := 29) rfl ?_); refine goesL_ (some 90) rfl rfl Tryd.func29 (by kernel_rfl) rfl #[.string t265, .string t266] rfl (by (try simp only [List.map_toArray, List.map_cons, List.map_nil]); first | done | rfl | (simp only [List.length_drop, List.length_take]; rfl)) ?_; (with_reducible refine (impl_Under.calls kj44 t265 t266 true _ A67.out).mono ?_); rintro e w72 ⟨rfl, hb⟩; refine ⟨_, rfl, ?_⟩; have n0_ := Aside0.mk (below_step (by repeat (first | (with_reducible first | exact HB.out | apply below_alloc | apply pw_below_drewN | apply below_drew1) | exact HB.out)) hb); clear HB; have HB := n0_; clear n0_; (try clear hb); (try clear hb2); (try clear hk); (try clear hi)) | (go_at_call 29; (with_reducible refine (impl_Under.calls kj44 t266 t265 t268 _ A71.out).mono ?_); rintro e w73 ⟨rfl, hb⟩; have n0_ := Aside0.mk (below_step (by repeat (first | (with_reducible first | exact HB.out | apply below_alloc | apply pw_below_drewN | apply below_drew1) | exact HB.out)) hb); clear HB; have HB := n0_; clear n0_; (try clear hb); (try clear hb2); (try clear hk); (try clear hi)))
                              go_meet
                              case rel => exact ⟨_, (t268), (by first | rfl | (simp; done) | (simp [*]; done)), H', ⟨by have := HJ5.out; have := HJ16.out; have := HJ21.out; have := HJ44.out; first | omega | exact Nat.le_refl _⟩, ⟨by repeat (first | (with_reducible first | exact HB.out | apply below_alloc | apply pw_below_drewN | apply below_drew1) | exact HB.out)⟩⟩
                          · replace c68 := Bool.eq_false_iff.mpr c68
                            subst c68
                            have H1 : (laws_FnHosts.j4 kj44 false) = some r := by rw [if_neg (show ¬ (false = true) by decide)] at H; exact H
                            clear H
                            have H := H1
                            clear H1
                            have H' := Aside0.mk H
                            clear H
                            go_wp2_with (first | ((with_reducible refine gate_callee (f := 29) rfl ?_); refine goesL_ (some 90) rfl rfl Tryd.func29 (by kernel_rfl) rfl #[.string t265, .string t266] rfl (by (try simp only [List.map_toArray, List.map_cons, List.map_nil]); first | done | rfl | (simp only [List.length_drop, List.length_take]; rfl)) ?_; (with_reducible refine (impl_Under.calls kj44 t265 t266 false _ A67.out).mono ?_); rintro e w74 ⟨rfl, hb⟩; refine ⟨_, rfl, ?_⟩; have n0_ := Aside0.mk (below_step (by repeat (first | (with_reducible first | exact HB.out | apply below_alloc | apply pw_below_drewN | apply below_drew1) | exact HB.out)) hb); clear HB; have HB := n0_; clear n0_; (try clear hb); (try clear hb2); (try clear hk); (try clear hi)))
                            go_meet
                            case rel => exact ⟨_, (false), (by first | rfl | (simp; done) | (simp [*]; done)), H', ⟨by have := HJ5.out; have := HJ16.out; have := HJ21.out; have := HJ44.out; first | omega | exact Nat.le_refl _⟩, ⟨by repeat (first | (with_reducible first | exact HB.out | apply below_alloc | apply pw_below_drewN | apply below_drew1) | exact HB.out)⟩⟩
                        case rest =>
                          clear HC65
                          try clear c1
                          try clear c2
                          try clear p2
                          try clear c3
                          try clear c4
                          try clear c5
                          try clear c6
                          try clear c9
                          try clear c10
                          try clear c11
                          try clear c16
                          try clear c18
                          try clear c19
                          try clear c19b0
                          try clear c19b1
                          try clear c20
                          try clear c20b0
                          try clear c20b1
                          try clear c21
                          try clear c21b0
                          try clear c21b1
                          try clear c23
                          try clear c24
                          try clear c24b0
                          try clear c24b1
                          try clear c26
                          try clear c27
                          try clear c27b0
                          try clear c28
                          try clear c28b0
                          try clear c28b1
                          try clear c29
                          try clear c30
                          try clear c30b0
                          try clear c30b1
                          try clear c30b2
                          try clear c32
                          try clear c33
                          try clear c34
                          try clear c35
                          try clear c35b0
                          try clear c36
                          try clear c37
                          try clear c47
                          try clear c49
                          try clear c51
                          try clear c63
                          try clear c68
                          try clear c69
                          try clear c69b0
                          try clear c69b1
                          try clear p2
                          obtain ⟨kq, x100_64, rfl, HA, HJ64, HB⟩ := hcut
                          cases kq with
                          | zero => exact absurd HA.out (by simp [laws_FnHosts.j4])
                          | succ kj64 =>
                            have H := HA.out
                            clear HA
                            simp only [laws_FnHosts.j4] at H
                            by_cases c75 : x100_64 = true
                            · subst c75
                              have H1 : (some false) = some r := by rw [if_pos rfl] at H; exact H
                              clear H
                              have H := H1
                              clear H1
                              obtain rfl := Option.some.inj H
                              go_wp2
                              go_ret
                              exact ⟨by first | rfl | (simp [errW_none, errW_some] <;> rfl) | (simp [*, errW_none, errW_some] <;> rfl), by repeat (first | (with_reducible first | exact HB.out | apply below_alloc | apply pw_below_drewN | apply below_drew1) | exact HB.out)⟩
                            · replace c75 := Bool.eq_false_iff.mpr c75
                              subst c75
                              have H1 : ((impl_HostOk.f kj64 (⟨#[97, 46, 111, 114, 103]⟩ : ByteArray)).bind fun t269 => (if t269 = true then ((impl_HostOk.f kj64 (⟨#[]⟩ : ByteArray)).bind fun t270 => (if t270 = true then (some false) else ((Hand.impl_Lower.f (⟨#[65, 46, 90]⟩ : ByteArray)).bind fun t271 => (some (t271.toList == ([97, 46, 122] : List UInt8)))))) else (some false))) = some r := by rw [if_neg (show ¬ (false = true) by decide)] at H; exact H
                              clear H
                              have H := H1
                              clear H1
                              replace H := Option.bind_eq_some_iff.mp H
                              obtain ⟨t269, A760, H⟩ := H
                              replace H : (if t269 = true then ((impl_HostOk.f kj64 (⟨#[]⟩ : ByteArray)).bind fun t270 => (if t270 = true then (some false) else ((Hand.impl_Lower.f (⟨#[65, 46, 90]⟩ : ByteArray)).bind fun t271 => (some (t271.toList == ([97, 46, 122] : List UInt8)))))) else (some false)) = some r := H
                              have A76 := Aside0.mk A760
                              clear A760
                              by_cases c77 : t269 = true
                              · subst c77
                                have H1 : ((impl_HostOk.f kj64 (⟨#[]⟩ : ByteArray)).bind fun t270 => (if t270 = true then (some false) else ((Hand.impl_Lower.f (⟨#[65, 46, 90]⟩ : ByteArray)).bind fun t271 => (some (t271.toList == ([97, 46, 122] : List UInt8)))))) = some r := by rw [if_pos rfl] at H; exact H
                                clear H
                                have H := H1
                                clear H1
                                replace H := Option.bind_eq_some_iff.mp H
                                obtain ⟨t270, A780, H⟩ := H
                                replace H : (if t270 = true then (some false) else ((Hand.impl_Lower.f (⟨#[65, 46, 90]⟩ : ByteArray)).bind fun t271 => (some (t271.toList == ([97, 46, 122] : List UInt8))))) = some r := H
                                have A78 := Aside0.mk A780
                                clear A780
                                by_cases c79 : t270 = true
                                · subst c79
                                  have H1 : (some false) = some r := by rw [if_pos rfl] at H; exact H
                                  clear H
                                  have H := H1
                                  clear H1
                                  obtain rfl := Option.some.inj H
                                  go_wp2_with (first | ((with_reducible refine gate_callee (f := 27) rfl ?_); refine goesL_ (some 101) rfl rfl Tryd.func27 (by kernel_rfl) rfl #[.string (⟨#[97, 46, 111, 114, 103]⟩ : ByteArray)] rfl (by (try simp only [List.map_toArray, List.map_cons, List.map_nil]); first | done | rfl | (simp only [List.length_drop, List.length_take]; rfl)) ?_; (with_reducible refine (impl_HostOk.calls kj64 (⟨#[97, 46, 111, 114, 103]⟩ : ByteArray) true _ A76.out).mono ?_); rintro e w80 ⟨rfl, hb⟩; refine ⟨_, rfl, ?_⟩; have n0_ := Aside0.mk (below_step (by repeat (first | (with_reducible first | exact HB.out | apply below_alloc | apply pw_below_drewN | apply below_drew1) | exact HB.out)) hb); clear HB; have HB := n0_; clear n0_; (try clear hb); (try clear hb2); (try clear hk); (try clear hi)) | (go_at_call 27; (with_reducible refine (impl_HostOk.calls kj64 (⟨#[]⟩ : ByteArray) true _ A78.out).mono ?_); rintro e w81 ⟨rfl, hb⟩; have n0_ := Aside0.mk (below_step (by repeat (first | (with_reducible first | exact HB.out | apply below_alloc | apply pw_below_drewN | apply below_drew1) | exact HB.out)) hb); clear HB; have HB := n0_; clear n0_; (try clear hb); (try clear hb2); (try clear hk); (try clear hi)))
                                  go_ret
                                  exact ⟨by first | rfl | (simp [errW_none, errW_some] <;> rfl) | (simp [*, errW_none, errW_some] <;> rfl), by repeat (first | (with_reducible first | exact HB.out | apply below_alloc | apply pw_below_drewN | apply below_drew1) | exact HB.out)⟩
                                · replace c79 := Bool.eq_false_iff.mpr c79
                                  subst c79
                                  have H1 : ((Hand.impl_Lower.f (⟨#[65, 46, 90]⟩ : ByteArray)).bind fun t271 => (some (t271.toList == ([97, 46, 122] : List UInt8)))) = some r := by rw [if_neg (show ¬ (false = true) by decide)] at H; exact H
                                  clear H
                                  have H := H1
                                  clear H1
                                  replace H := Option.bind_eq_some_iff.mp H
                                  obtain ⟨t271, A820, H⟩ := H
                                  replace H : (some (t271.toList == ([97, 46, 122] : List UInt8))) = some r := H
                                  have A82 := Aside0.mk A820
                                  clear A820
                                  obtain rfl := Option.some.inj H
                                  go_wp2_with (first | ((with_reducible refine gate_callee (f := 27) rfl ?_); refine goesL_ (some 101) rfl rfl Tryd.func27 (by kernel_rfl) rfl #[.string (⟨#[97, 46, 111, 114, 103]⟩ : ByteArray)] rfl (by (try simp only [List.map_toArray, List.map_cons, List.map_nil]); first | done | rfl | (simp only [List.length_drop, List.length_take]; rfl)) ?_; (with_reducible refine (impl_HostOk.calls kj64 (⟨#[97, 46, 111, 114, 103]⟩ : ByteArray) true _ A76.out).mono ?_); rintro e w83 ⟨rfl, hb⟩; refine ⟨_, rfl, ?_⟩; have n0_ := Aside0.mk (below_step (by repeat (first | (with_reducible first | exact HB.out | apply below_alloc | apply pw_below_drewN | apply below_drew1) | exact HB.out)) hb); clear HB; have HB := n0_; clear n0_; (try clear hb); (try clear hb2); (try clear hk); (try clear hi)) | (go_at_call 27; (with_reducible refine (impl_HostOk.calls kj64 (⟨#[]⟩ : ByteArray) false _ A78.out).mono ?_); rintro e w84 ⟨rfl, hb⟩; have n0_ := Aside0.mk (below_step (by repeat (first | (with_reducible first | exact HB.out | apply below_alloc | apply pw_below_drewN | apply below_drew1) | exact HB.out)) hb); clear HB; have HB := n0_; clear n0_; (try clear hb); (try clear hb2); (try clear hk); (try clear hi)) | (go_at_call 35; (with_reducible refine (Hand.impl_Lower.calls (⟨#[65, 46, 90]⟩ : ByteArray) t271 _ A82.out).mono ?_); rintro e w85 ⟨rfl, hb⟩; have n0_ := Aside0.mk (below_step (by repeat (first | (with_reducible first | exact HB.out | apply below_alloc | apply pw_below_drewN | apply below_drew1) | exact HB.out)) hb); clear HB; have HB := n0_; clear n0_; (try clear hb); (try clear hb2); (try clear hk); (try clear hi)))
                                  go_ret
                                  exact ⟨by first | rfl | (simp [errW_none, errW_some] <;> rfl) | (simp [*, errW_none, errW_some] <;> rfl), by repeat (first | (with_reducible first | exact HB.out | apply below_alloc | apply pw_below_drewN | apply below_drew1) | exact HB.out)⟩
                              · replace c77 := Bool.eq_false_iff.mpr c77
                                subst c77
                                have H1 : (some false) = some r := by rw [if_neg (show ¬ (false = true) by decide)] at H; exact H
                                clear H
                                have H := H1
                                clear H1
                                obtain rfl := Option.some.inj H
                                go_wp2_with (first | ((with_reducible refine gate_callee (f := 27) rfl ?_); refine goesL_ (some 101) rfl rfl Tryd.func27 (by kernel_rfl) rfl #[.string (⟨#[97, 46, 111, 114, 103]⟩ : ByteArray)] rfl (by (try simp only [List.map_toArray, List.map_cons, List.map_nil]); first | done | rfl | (simp only [List.length_drop, List.length_take]; rfl)) ?_; (with_reducible refine (impl_HostOk.calls kj64 (⟨#[97, 46, 111, 114, 103]⟩ : ByteArray) false _ A76.out).mono ?_); rintro e w86 ⟨rfl, hb⟩; refine ⟨_, rfl, ?_⟩; have n0_ := Aside0.mk (below_step (by repeat (first | (with_reducible first | exact HB.out | apply below_alloc | apply pw_below_drewN | apply below_drew1) | exact HB.out)) hb); clear HB; have HB := n0_; clear n0_; (try clear hb); (try clear hb2); (try clear hk); (try clear hi)))
                                go_ret
                                exact ⟨by first | rfl | (simp [errW_none, errW_some] <;> rfl) | (simp [*, errW_none, errW_some] <;> rfl), by repeat (first | (with_reducible first | exact HB.out | apply below_alloc | apply pw_below_drewN | apply below_drew1) | exact HB.out)⟩

/-- THE ONE PURE STATEMENT of laws_FnHosts: yours. -/
def laws_FnHosts.Pure : Prop := ∀ (l0 : List Int), l0.length ≤ maxLen → l0.length * 1 ≤ 140737488351232 → (∀ x ∈ l0, (Lit.int .u8 x).wf = true) → ∃ k, laws_FnHosts.f k l0 = some true
theorem laws_FnHosts.walk (P : laws_FnHosts.Pure) (a0 : Option Addr) (len0 cap0 : Nat) (z0 : List Int) (w : World) (w0 : (a0 = none ∧ len0 = 0 ∧ cap0 = 0 ∧ z0 = []) ∨ ∃ x, a0 = some x ∧ len0 ≤ cap0 ∧ cap0 ≤ maxLen ∧ z0.length = cap0 ∧ (∀ i, i < z0.length → w.cell? (x.add i) = some (.int .u8 (z0.getD i 0))) ∧ ∀ n ∈ z0, (Lit.int .u8 n).wf = true) (y0 : len0 * 1 ≤ 140737488351232) :
    Calls Tryd.prog 10 #[.slice a0 len0 cap0] w fun e w' => e = .returned (.bool true) ∧ Below w.heap.size w w' := by
  obtain ⟨l0, rfl, hr0, hm0, hw0, hc0⟩ := ReadsInt.ofRowC w0
  obtain ⟨k, h⟩ := P l0 hm0 y0 hw0
  refine (laws_FnHosts.calls k _ _ l0 true w (Kd.C_of_reads (d := (0 : Int)) (h1 := fun _ => rfl) hr0) hc0 h).mono ?_
  rintro e w' ⟨rfl, hd⟩
  exact ⟨rfl, hd⟩

end Go.Proofs.YthfaelbkdhhmdaaDoor.GFnHosts
