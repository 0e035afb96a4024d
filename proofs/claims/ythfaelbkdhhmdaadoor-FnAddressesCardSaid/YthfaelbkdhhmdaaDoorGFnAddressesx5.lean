-- This text was written by wip/gen.py, a program of this session; Lean checks it.
import Derived.Test.YthfaelbkdhhmdaaDoorGFnAddressesx0
import Derived.Test.YthfaelbkdhhmdaaDoorGFnAddressesx2
import Derived.Test.YthfaelbkdhhmdaaDoorGFnAddressesx3
import Derived.Test.YthfaelbkdhhmdaaDoorGFnAddressesx4
namespace Go.Proofs.YthfaelbkdhhmdaaDoor.GFnAddresses
open Go.RowKit Go.Proofs.YthfaelbkdhhmdaaDoorW.PrintWords Go.Proofs.YthfaelbkdhhmdaaDoorW.PrintLast Go.Proofs.YthfaelbkdhhmdaaDoorW.PrintMore
attribute [local go_sem] max2_int min2_int max_two min_two max_three min_three max_four min_four   -- for this text's walks alone
set_option linter.unusedVariables false
set_option linter.unusedSimpArgs false

/-! ### impl_InNet: function 23 -/
def impl_InNet.f (k : Nat) (l0 : List Int) (a1 : Int) (l2 : List Int) : Option (Bool) := (impl_isAddress.f k l0).bind fun t288 => (if t288 = true then ((impl_isAddress.f k l2).bind fun t289 => (if t289 = true then ((impl_within.f a1 0 32).bind fun t290 => (if t290 = true then ((impl_number.f l0).bind fun t291 => ((impl_number.f l2).bind fun t292 => (if 0 ≤ (wrap64 (32 - a1)) then (some ((shr .i64 (Go.bits .xor .i64 t291 t292) (wrap64 (32 - a1))) == 0)) else (none)))) else (some false))) else (some false))) else (some false))
theorem impl_InNet.mono : ∀ a0 a1 a2 k, LeO (impl_InNet.f k a0 a1 a2) (impl_InNet.f (k + 1) a0 a1 a2) := by
  intro a0 a1 a2 k
  unfold impl_InNet.f
  repeat' first
      | (with_reducible exact impl_isAddress.mono _ _)
      | (with_reducible exact LeO.refl _)
      | (with_reducible exact LeO.none _)
      | (with_reducible refine LeO.ite ?_ ?_)
      | (with_reducible refine LeO.bind ?_ (fun _ => ?_))
      | exact impl_isAddress.mono _ _
      | exact LeO.none _
      | refine LeO.ite ?_ ?_
      | refine LeO.bind ?_ (fun _ => ?_)
set_option maxHeartbeats 8000000 in
set_option maxRecDepth 100000 in
theorem impl_InNet.calls (k : Nat) (A0 : Option Addr) (c0 : Nat) (l0 : List Int) (a1 : Int) (A2 : Option Addr) (c2 : Nat) (l2 : List Int) (r : Bool) (w : World) (hr0 : Kd.C (Kd.int .i64) w A0 l0.length l0) (hc0 : l0.length ≤ c0) (hr2 : Kd.C (Kd.int .i64) w A2 l2.length l2) (hc2 : l2.length ≤ c2) (h : impl_InNet.f k l0 a1 l2 = some r) :
    Calls Tryd.prog 23 #[.slice A0 l0.length c0, .int .i64 a1, .slice A2 l2.length c2] w fun e w' => e = .returned (.bool r) ∧ Drawn0 w w' := by
  have HR0 := Aside0.mk hr0
  have HC0 := Aside0.mk hc0
  clear hr0 hc0
  have HR2 := Aside0.mk hr2
  have HC2 := Aside0.mk hc2
  clear hr2 hc2
  have H : ((impl_isAddress.f k l0).bind fun t288 => (if t288 = true then ((impl_isAddress.f k l2).bind fun t289 => (if t289 = true then ((impl_within.f a1 0 32).bind fun t290 => (if t290 = true then ((impl_number.f l0).bind fun t291 => ((impl_number.f l2).bind fun t292 => (if 0 ≤ (wrap64 (32 - a1)) then (some ((shr .i64 (Go.bits .xor .i64 t291 t292) (wrap64 (32 - a1))) == 0)) else (none)))) else (some false))) else (some false))) else (some false))) = some r := h
  clear h
  replace H := Option.bind_eq_some_iff.mp H
  obtain ⟨t288, A40, H⟩ := H
  replace H : (if t288 = true then ((impl_isAddress.f k l2).bind fun t289 => (if t289 = true then ((impl_within.f a1 0 32).bind fun t290 => (if t290 = true then ((impl_number.f l0).bind fun t291 => ((impl_number.f l2).bind fun t292 => (if 0 ≤ (wrap64 (32 - a1)) then (some ((shr .i64 (Go.bits .xor .i64 t291 t292) (wrap64 (32 - a1))) == 0)) else (none)))) else (some false))) else (some false))) else (some false)) = some r := H
  have A4 := Aside0.mk A40
  clear A40
  by_cases c5 : t288 = true
  · subst c5
    have H1 : ((impl_isAddress.f k l2).bind fun t289 => (if t289 = true then ((impl_within.f a1 0 32).bind fun t290 => (if t290 = true then ((impl_number.f l0).bind fun t291 => ((impl_number.f l2).bind fun t292 => (if 0 ≤ (wrap64 (32 - a1)) then (some ((shr .i64 (Go.bits .xor .i64 t291 t292) (wrap64 (32 - a1))) == 0)) else (none)))) else (some false))) else (some false))) = some r := by rw [if_pos rfl] at H; exact H
    clear H
    have H := H1
    clear H1
    replace H := Option.bind_eq_some_iff.mp H
    obtain ⟨t289, A60, H⟩ := H
    replace H : (if t289 = true then ((impl_within.f a1 0 32).bind fun t290 => (if t290 = true then ((impl_number.f l0).bind fun t291 => ((impl_number.f l2).bind fun t292 => (if 0 ≤ (wrap64 (32 - a1)) then (some ((shr .i64 (Go.bits .xor .i64 t291 t292) (wrap64 (32 - a1))) == 0)) else (none)))) else (some false))) else (some false)) = some r := H
    have A6 := Aside0.mk A60
    clear A60
    by_cases c7 : t289 = true
    · subst c7
      have H1 : ((impl_within.f a1 0 32).bind fun t290 => (if t290 = true then ((impl_number.f l0).bind fun t291 => ((impl_number.f l2).bind fun t292 => (if 0 ≤ (wrap64 (32 - a1)) then (some ((shr .i64 (Go.bits .xor .i64 t291 t292) (wrap64 (32 - a1))) == 0)) else (none)))) else (some false))) = some r := by rw [if_pos rfl] at H; exact H
      clear H
      have H := H1
      clear H1
      replace H := Option.bind_eq_some_iff.mp H
      obtain ⟨t290, A80, H⟩ := H
      replace H : (if t290 = true then ((impl_number.f l0).bind fun t291 => ((impl_number.f l2).bind fun t292 => (if 0 ≤ (wrap64 (32 - a1)) then (some ((shr .i64 (Go.bits .xor .i64 t291 t292) (wrap64 (32 - a1))) == 0)) else (none)))) else (some false)) = some r := H
      have A8 := Aside0.mk A80
      clear A80
      by_cases c9 : t290 = true
      · subst c9
        have H1 : ((impl_number.f l0).bind fun t291 => ((impl_number.f l2).bind fun t292 => (if 0 ≤ (wrap64 (32 - a1)) then (some ((shr .i64 (Go.bits .xor .i64 t291 t292) (wrap64 (32 - a1))) == 0)) else (none)))) = some r := by rw [if_pos rfl] at H; exact H
        clear H
        have H := H1
        clear H1
        replace H := Option.bind_eq_some_iff.mp H
        obtain ⟨t291, A100, H⟩ := H
        replace H : ((impl_number.f l2).bind fun t292 => (if 0 ≤ (wrap64 (32 - a1)) then (some ((shr .i64 (Go.bits .xor .i64 t291 t292) (wrap64 (32 - a1))) == 0)) else (none))) = some r := H
        have A10 := Aside0.mk A100
        clear A100
        replace H := Option.bind_eq_some_iff.mp H
        obtain ⟨t292, A110, H⟩ := H
        replace H : (if 0 ≤ (wrap64 (32 - a1)) then (some ((shr .i64 (Go.bits .xor .i64 t291 t292) (wrap64 (32 - a1))) == 0)) else (none)) = some r := H
        have A11 := Aside0.mk A110
        clear A110
        obtain ⟨ji12, hji12⟩ : ∃ j_ : Int, (wrap64 (32 - a1)) = j_ := ⟨_, rfl⟩
        replace H : (if 0 ≤ (ji12) then (some ((shr .i64 (Go.bits .xor .i64 t291 t292) (ji12)) == 0)) else (none)) = some r := by first | (rw [hji12] at H; exact H) | (simp only [hji12] at H ⊢; exact H)
        (try rw [hji12] at A4)
        (try rw [hji12] at A6)
        (try rw [hji12] at A8)
        (try rw [hji12] at A10)
        (try rw [hji12] at A11)
        have hji12w : (IntKind.i64.wrap (32 - a1)) = ji12 := (i64_w _).trans hji12
        by_cases c13 : 0 ≤ (ji12)
        · rw [if_pos c13] at H
          have c13b0 := eq_true c13
          have c13b1 : decide (0 ≤ (ji12)) = true := decide_eq_true c13
          clear c13
          obtain ⟨ji14, hji14⟩ : ∃ j_ : Int, (shr .i64 (Go.bits .xor .i64 t291 t292) (ji12)) = j_ := ⟨_, rfl⟩
          replace H : (some ((ji14) == 0)) = some r := by first | (rw [hji14] at H; exact H) | (simp only [hji14] at H ⊢; exact H)
          (try rw [hji14] at A4)
          (try rw [hji14] at A6)
          (try rw [hji14] at A8)
          (try rw [hji14] at A10)
          (try rw [hji14] at A11)
          have hji14_ : ((Go.bits .xor .i64 t291 t292) / 2 ^ min (ji12).toNat 64) = ji14 := hji14
          have hji14z : (ji12) ≤ 64 → ((Go.bits .xor .i64 t291 t292) / 2 ^ (ji12).toNat) = ji14 := shr_small hji14
          obtain rfl := Option.some.inj H
          go_enter Tryd.func23, Tryd.ntmps23
          go_wp2_with (first | ((with_reducible refine gate_callee (f := 39) rfl ?_); refine goesL_ (some 8) rfl rfl Tryd.func39 (by kernel_rfl) rfl #[.slice A0 l0.length c0] rfl (by (try simp only [List.map_toArray, List.map_cons, List.map_nil]); first | done | rfl | (simp only [List.length_drop, List.length_take]; rfl)) ?_; (with_reducible refine (impl_isAddress.calls k _ _ l0 true _ ?side1 ?side2 A4.out).mono ?_); (case side1 => repeat (first | exact HR0.out | (with_reducible refine Kd.C_alloc ?_ _) | (with_reducible refine Kd.C_drewN ?_ _) | (with_reducible refine Kd.C_drew ?_))); (case side2 => exact HC0.out); rintro e w' ⟨rfl, ⟨nd, rfl⟩⟩; refine ⟨_, rfl, ?_⟩) | (go_at_call 39; (with_reducible refine (impl_isAddress.calls k _ _ l2 true _ ?side1 ?side2 A6.out).mono ?_); (case side1 => repeat (first | exact HR2.out | (with_reducible refine Kd.C_alloc ?_ _) | (with_reducible refine Kd.C_drewN ?_ _) | (with_reducible refine Kd.C_drew ?_))); (case side2 => exact HC2.out); rintro e w' ⟨rfl, ⟨nd, rfl⟩⟩) | (go_at_call 46; (with_reducible refine (impl_within.calls a1 0 32 true _ A8.out).mono ?_); rintro e w' ⟨rfl, ⟨nd, rfl⟩⟩) | (go_at_call 52; (with_reducible refine (impl_number.calls _ _ l0 t291 _ ?side1 ?side2 A10.out).mono ?_); (case side1 => repeat (first | exact HR0.out | (with_reducible refine Kd.C_alloc ?_ _) | (with_reducible refine Kd.C_drewN ?_ _) | (with_reducible refine Kd.C_drew ?_))); (case side2 => exact HC0.out); rintro e w' ⟨rfl, ⟨nd, rfl⟩⟩) | (go_at_call 52; (with_reducible refine (impl_number.calls _ _ l2 t292 _ ?side1 ?side2 A11.out).mono ?_); (case side1 => repeat (first | exact HR2.out | (with_reducible refine Kd.C_alloc ?_ _) | (with_reducible refine Kd.C_drewN ?_ _) | (with_reducible refine Kd.C_drew ?_))); (case side2 => exact HC2.out); rintro e w' ⟨rfl, ⟨nd, rfl⟩⟩))
          go_ret
          exact ⟨by first | rfl | (simp; done) | (simp only [← hji12, ← hji14] <;> (first | rfl | simp)) | (simp [*]; done), by repeat (first | exact Drawn0.refl _ | apply Drawn0.step)⟩
        · rw [if_neg c13] at H
          exact absurd H (by simp)
      · replace c9 := Bool.eq_false_iff.mpr c9
        subst c9
        have H1 : (some false) = some r := by rw [if_neg (show ¬ (false = true) by decide)] at H; exact H
        clear H
        have H := H1
        clear H1
        obtain rfl := Option.some.inj H
        go_enter Tryd.func23, Tryd.ntmps23
        go_wp2_with (first | ((with_reducible refine gate_callee (f := 39) rfl ?_); refine goesL_ (some 8) rfl rfl Tryd.func39 (by kernel_rfl) rfl #[.slice A0 l0.length c0] rfl (by (try simp only [List.map_toArray, List.map_cons, List.map_nil]); first | done | rfl | (simp only [List.length_drop, List.length_take]; rfl)) ?_; (with_reducible refine (impl_isAddress.calls k _ _ l0 true _ ?side1 ?side2 A4.out).mono ?_); (case side1 => repeat (first | exact HR0.out | (with_reducible refine Kd.C_alloc ?_ _) | (with_reducible refine Kd.C_drewN ?_ _) | (with_reducible refine Kd.C_drew ?_))); (case side2 => exact HC0.out); rintro e w' ⟨rfl, ⟨nd, rfl⟩⟩; refine ⟨_, rfl, ?_⟩) | (go_at_call 39; (with_reducible refine (impl_isAddress.calls k _ _ l2 true _ ?side1 ?side2 A6.out).mono ?_); (case side1 => repeat (first | exact HR2.out | (with_reducible refine Kd.C_alloc ?_ _) | (with_reducible refine Kd.C_drewN ?_ _) | (with_reducible refine Kd.C_drew ?_))); (case side2 => exact HC2.out); rintro e w' ⟨rfl, ⟨nd, rfl⟩⟩) | (go_at_call 46; (with_reducible refine (impl_within.calls a1 0 32 false _ A8.out).mono ?_); rintro e w' ⟨rfl, ⟨nd, rfl⟩⟩))
        go_ret
        exact ⟨by first | rfl | (simp; done) | (simp [*]; done), by repeat (first | exact Drawn0.refl _ | apply Drawn0.step)⟩
    · replace c7 := Bool.eq_false_iff.mpr c7
      subst c7
      have H1 : (some false) = some r := by rw [if_neg (show ¬ (false = true) by decide)] at H; exact H
      clear H
      have H := H1
      clear H1
      obtain rfl := Option.some.inj H
      go_enter Tryd.func23, Tryd.ntmps23
      go_wp2_with (first | ((with_reducible refine gate_callee (f := 39) rfl ?_); refine goesL_ (some 8) rfl rfl Tryd.func39 (by kernel_rfl) rfl #[.slice A0 l0.length c0] rfl (by (try simp only [List.map_toArray, List.map_cons, List.map_nil]); first | done | rfl | (simp only [List.length_drop, List.length_take]; rfl)) ?_; (with_reducible refine (impl_isAddress.calls k _ _ l0 true _ ?side1 ?side2 A4.out).mono ?_); (case side1 => repeat (first | exact HR0.out | (with_reducible refine Kd.C_alloc ?_ _) | (with_reducible refine Kd.C_drewN ?_ _) | (with_reducible refine Kd.C_drew ?_))); (case side2 => exact HC0.out); rintro e w' ⟨rfl, ⟨nd, rfl⟩⟩; refine ⟨_, rfl, ?_⟩) | (go_at_call 39; (with_reducible refine (impl_isAddress.calls k _ _ l2 false _ ?side1 ?side2 A6.out).mono ?_); (case side1 => repeat (first | exact HR2.out | (with_reducible refine Kd.C_alloc ?_ _) | (with_reducible refine Kd.C_drewN ?_ _) | (with_reducible refine Kd.C_drew ?_))); (case side2 => exact HC2.out); rintro e w' ⟨rfl, ⟨nd, rfl⟩⟩))
      go_ret
      exact ⟨by first | rfl | (simp; done) | (simp [*]; done), by repeat (first | exact Drawn0.refl _ | apply Drawn0.step)⟩
  · replace c5 := Bool.eq_false_iff.mpr c5
    subst c5
    have H1 : (some false) = some r := by rw [if_neg (show ¬ (false = true) by decide)] at H; exact H
    clear H
    have H := H1
    clear H1
    obtain rfl := Option.some.inj H
    go_enter Tryd.func23, Tryd.ntmps23
    go_wp2_with (first | ((with_reducible refine gate_callee (f := 39) rfl ?_); refine goesL_ (some 8) rfl rfl Tryd.func39 (by kernel_rfl) rfl #[.slice A0 l0.length c0] rfl (by (try simp only [List.map_toArray, List.map_cons, List.map_nil]); first | done | rfl | (simp only [List.length_drop, List.length_take]; rfl)) ?_; (with_reducible refine (impl_isAddress.calls k _ _ l0 false _ ?side1 ?side2 A4.out).mono ?_); (case side1 => repeat (first | exact HR0.out | (with_reducible refine Kd.C_alloc ?_ _) | (with_reducible refine Kd.C_drewN ?_ _) | (with_reducible refine Kd.C_drew ?_))); (case side2 => exact HC0.out); rintro e w' ⟨rfl, ⟨nd, rfl⟩⟩; refine ⟨_, rfl, ?_⟩))
    go_ret
    exact ⟨by first | rfl | (simp; done) | (simp [*]; done), by repeat (first | exact Drawn0.refl _ | apply Drawn0.step)⟩

/-! ### laws_at: function 24 -/
def laws_at.f (l0 : List Int) (a1 : Int) : Option (Int) := if a1 < (l0.length : Int) then (if 0 ≤ a1 then (some (wrap64 (rd l0 a1))) else (none)) else (some (Int.tmod (wrap64 ((wrap64 (a1 * 7)) + (l0.length : Int))) 256))
set_option maxHeartbeats 8000000 in
set_option maxRecDepth 100000 in
theorem laws_at.calls (A0 : Option Addr) (c0 : Nat) (l0 : List Int) (a1 : Int) (r : Int) (w : World) (hr0 : Kd.C (Kd.int .u8) w A0 l0.length l0) (hc0 : l0.length ≤ c0) (h : laws_at.f l0 a1 = some r) :
    Calls Tryd.prog 24 #[.slice A0 l0.length c0, .int .i64 a1] w fun e w' => e = .returned (.int .i64 r) ∧ Drawn0 w w' := by
  have HR0 := Aside0.mk hr0
  have HC0 := Aside0.mk hc0
  clear hr0 hc0
  have H : (if a1 < (l0.length : Int) then (if 0 ≤ a1 then (some (wrap64 (rd l0 a1))) else (none)) else (some (Int.tmod (wrap64 ((wrap64 (a1 * 7)) + (l0.length : Int))) 256))) = some r := h
  clear h
  by_cases c3 : a1 < (l0.length : Int)
  · rw [if_pos c3] at H
    have c3b0 : decide (a1 < (l0.length : Int)) = true := decide_eq_true c3
    clear c3
    by_cases c4 : 0 ≤ a1
    · rw [if_pos c4] at H
      have c4b0 : decide (0 ≤ a1) = true := decide_eq_true c4
      clear c4
      obtain rfl := Option.some.inj H
      have p293 : 0 ≤ (a1 : Int) := of_decide_eq_true (by first | (with_reducible assumption) | assumption)
      have q293 : a1 < (l0.length : Int) := of_decide_eq_true (by first | (with_reducible assumption) | assumption)
      obtain ⟨ad293, e293, hx293_0⟩ := Kd.at_int HR0.out a1 p293 q293
      cases e293
      replace p293 := eq_true p293
      replace q293 := eq_true q293
      go_enter Tryd.func24, Tryd.ntmps24
      go_wp2
      go_ret
      exact ⟨by first | rfl | (simp; done) | (simp [*]; done), by repeat (first | exact Drawn0.refl _ | apply Drawn0.step)⟩
    · rw [if_neg c4] at H
      exact absurd H (by simp)
  · rw [if_neg c3] at H
    have c3b0 : decide (a1 < (l0.length : Int)) = false := decide_eq_false c3
    clear c3
    obtain rfl := Option.some.inj H
    go_enter Tryd.func24, Tryd.ntmps24
    go_wp2
    go_ret
    exact ⟨by first | rfl | (simp; done) | (simp [*]; done), by repeat (first | exact Drawn0.refl _ | apply Drawn0.step)⟩

/-! ### spec_l1Pick: function 53 -/
def spec_l1Pick.f (s0_0 : List Int) (s0_1 : Int) (s0_2 : Int) (l1 : List ByteArray) : Option (ByteArray × Int × Int) := (spec_l1Below.f s0_0 s0_1 s0_2 (l1.length : Int)).bind fun bt294 => (if 0 ≤ bt294.1 then (if bt294.1 < (l1.length : Int) then (some (rdOf ByteArray.empty l1 bt294.1, bt294.2.1, bt294.2.2)) else (none)) else (none))
set_option maxHeartbeats 8000000 in
set_option maxRecDepth 100000 in
theorem spec_l1Pick.calls (g : Nat) (s0_0 : List Int) (s0_1 : Int) (s0_2 : Int) (A1 : Option Addr) (c1 : Nat) (l1 : List ByteArray) (r1 : ByteArray) (r2 : Int) (r3 : Int) (w0 w : World) (hI : IsS76 w0 w g s0_0 s0_1 s0_2) (hB : Below w0.heap.size w0 w) (hr1 : Kd.C Kd.string w A1 l1.length l1) (hc1 : l1.length ≤ c1) (hf1 : ∀ ad, A1 = some ad → 0 < l1.length → ad.block ≠ g) (h : spec_l1Pick.f s0_0 s0_1 s0_2 l1 = some (r1, r2, r3)) :
    Calls Tryd.prog 53 #[.pointer (some ⟨g, 0, none⟩), .slice A1 l1.length c1] w fun e w' => e = .returned (.string r1) ∧ IsS76 w0 w' g s0_0 r2 r3 ∧ Below w0.heap.size w0 w' ∧ KeepBut w w' g none := by
  have HR1 := Aside0.mk hr1
  have HC1 := Aside0.mk hc1
  clear hr1 hc1
  have HI0 := Aside0.mk hI
  have HK := Aside0.mk (KeepBut.refl w g none)
  have HL := Aside0.mk hB.size
  clear hI
  have HW0 := Aside0.mk hB.size
  have HB := Aside0.mk hB
  clear hB
  have H : ((spec_l1Below.f s0_0 s0_1 s0_2 (l1.length : Int)).bind fun bt294 => (if 0 ≤ bt294.1 then (if bt294.1 < (l1.length : Int) then (some (rdOf ByteArray.empty l1 bt294.1, bt294.2.1, bt294.2.2)) else (none)) else (none))) = some (r1, r2, r3) := h
  clear h
  replace H := Option.bind_eq_some_iff.mp H
  obtain ⟨⟨t294, t295, t296⟩, A30, H⟩ := H
  replace H : (if 0 ≤ t294 then (if t294 < (l1.length : Int) then (some (rdOf ByteArray.empty l1 t294, t295, t296)) else (none)) else (none)) = some (r1, r2, r3) := H
  have A3 := Aside0.mk A30
  clear A30
  by_cases c4 : 0 ≤ t294
  · rw [if_pos c4] at H
    have c4b0 : decide (0 ≤ t294) = true := decide_eq_true c4
    clear c4
    by_cases c5 : t294 < (l1.length : Int)
    · rw [if_pos c5] at H
      have c5b0 : decide (t294 < (l1.length : Int)) = true := decide_eq_true c5
      clear c5
      simp only [Option.some.injEq, Prod.mk.injEq] at H
      obtain ⟨rfl, rfl, rfl⟩ := H
      go_enter Tryd.func53, Tryd.ntmps53
      go_wp2_with (first | ((with_reducible refine gate_callee (f := 50) rfl ?_); refine goesL_ (some 9) rfl rfl Tryd.func50 (by kernel_rfl) rfl #[.pointer (some ⟨g, 0, none⟩), .int .i64 (l1.length : Int)] rfl (by (try simp only [List.map_toArray, List.map_cons, List.map_nil]); first | done | rfl | (simp only [List.length_drop, List.length_take]; rfl)) ?_; (with_reducible refine (spec_l1Below.calls g s0_0 s0_1 s0_2 (l1.length : Int) t294 t295 t296 w0 _ ?side1 ?side2 A3.out).mono ?_); (case side1 => repeat (first | (with_reducible first | exact HI0.out | apply IsS76.alloc | apply IsS76.drewN | apply IsS76.drew | apply IsS76.set_1 | apply IsS76.set_2) | exact HI0.out)); (case side2 => repeat (first | (with_reducible first | exact HB.out | apply below_alloc | apply pw_below_drewN | apply below_drew1 | refine below_set ?_ (IsS76.ge HI0.out)) | exact HB.out)); rintro e w6 ⟨rfl, hi, hb, hk⟩; refine ⟨_, rfl, ?_⟩; have n0_ := Aside0.mk (KeepBut.trans (by repeat (first | (with_reducible first | exact HK.out | apply KeepBut.set_ | apply keep_drewN | apply keep_drew | apply keep_alloc) | exact HK.out)) hk (.inl rfl)); have n1_ := Aside0.mk (hb); have n2_ := Aside0.mk (hi); clear HK; clear HB; clear HI0; have HK := n0_; have HB := n1_; have HI0 := n2_; clear n0_ n1_ n2_; (try clear hb); (try clear hb2); (try clear hk); (try clear hi); have p297 : 0 ≤ (t294 : Int) := of_decide_eq_true (by first | (with_reducible assumption) | assumption); have q297 : t294 < (l1.length : Int) := of_decide_eq_true (by first | (with_reducible assumption) | assumption); obtain ⟨ad297, e297, hx297_0⟩ := Kd.at_string HR1.out t294 p297 q297; cases e297; replace hx297_0 := keep_cell HK.out hx297_0 (by first | (rw [add_block]; exact hf1 _ rfl (by omega)) | exact hf1 _ rfl (by omega) | exact hf1 ad297 rfl (by omega)); replace p297 := eq_true p297; replace q297 := eq_true q297))
      go_ret
      exact ⟨by first | rfl | (simp [errW_none, errW_some] <;> rfl) | (simp [*, errW_none, errW_some] <;> rfl), by repeat (first | (with_reducible first | exact HI0.out | apply IsS76.alloc | apply IsS76.drewN | apply IsS76.drew | apply IsS76.set_1 | apply IsS76.set_2) | exact HI0.out), by repeat (first | (with_reducible first | exact HB.out | apply below_alloc | apply pw_below_drewN | apply below_drew1 | refine below_set ?_ (IsS76.ge HI0.out)) | exact HB.out), by repeat (first | (with_reducible first | exact HK.out | apply KeepBut.set_ | apply keep_drewN | apply keep_drew | apply keep_alloc) | exact HK.out)⟩
    · rw [if_neg c5] at H
      exact absurd H (by simp)
  · rw [if_neg c4] at H
    exact absurd H (by simp)

/-! ### spec_DrawReadAddress: function 25 -/
def spec_DrawReadAddress.f (k : Nat) (l0 : List Int) : Option (ByteArray) := (spec_l1New.f k l0).bind fun bt298 => ((spec_l8DrawAddress.f bt298.1 bt298.2.1 bt298.2.2).bind fun bt302 => ((spec_WriteAddress.f k bt302.1).bind fun bt307 => ((spec_l1Below.f bt298.1 bt302.2.1 bt302.2.2 6).bind fun bt309 => (if bt309.1 = 0 then ((spec_l1Pick.f bt298.1 bt309.2.1 bt309.2.2 (([(⟨#[]⟩ : ByteArray), (⟨#[49, 46, 50, 46, 51]⟩ : ByteArray), (⟨#[49, 46, 50, 46, 51, 46, 52, 46, 53]⟩ : ByteArray), (⟨#[48, 49, 46, 50, 46, 51, 46, 52]⟩ : ByteArray), (⟨#[49, 46, 50, 46, 51, 46, 50, 53, 54]⟩ : ByteArray), (⟨#[49, 46, 50, 46, 51, 46]⟩ : ByteArray), (⟨#[97, 46, 50, 46, 51, 46, 52]⟩ : ByteArray), (⟨#[49, 46, 50, 46, 51, 46, 48, 48, 48, 52]⟩ : ByteArray), (⟨#[48, 46, 48, 46, 48, 46, 48]⟩ : ByteArray), (⟨#[49, 46, 46, 50, 46, 51]⟩ : ByteArray), (⟨#[32, 49, 46, 50, 46, 51, 46, 52]⟩ : ByteArray)] : List ByteArray))).bind fun bt315 => (some bt315.1)) else (if bt309.1 = 1 then (if (bt307.1.size : Int) > 0 then ((spec_l1Below.f bt298.1 bt309.2.1 bt309.2.2 (bt307.1.size : Int)).bind fun bt318 => (if 0 ≤ bt318.1 then (if bt318.1 ≤ (bt307.1.size : Int) then (some (bt307.1.extract 0 (bt318.1 : Int).toNat)) else (none)) else (none))) else (some bt307.1)) else (some bt307.1))))))
theorem spec_DrawReadAddress.mono : ∀ a0 k, LeO (spec_DrawReadAddress.f k a0) (spec_DrawReadAddress.f (k + 1) a0) := by
  intro a0 k
  unfold spec_DrawReadAddress.f
  repeat' first
      | (with_reducible exact spec_WriteAddress.mono _ _)
      | (with_reducible exact spec_l1New.mono _ _)
      | (with_reducible exact LeO.refl _)
      | (with_reducible exact LeO.none _)
      | (with_reducible refine LeO.ite ?_ ?_)
      | (with_reducible refine LeO.bind ?_ (fun _ => ?_))
      | exact spec_WriteAddress.mono _ _
      | exact spec_l1New.mono _ _
      | exact LeO.none _
      | refine LeO.ite ?_ ?_
      | refine LeO.bind ?_ (fun _ => ?_)
set_option maxHeartbeats 8000000 in
set_option maxRecDepth 100000 in
theorem spec_DrawReadAddress.calls (k : Nat) (A0 : Option Addr) (c0 : Nat) (l0 : List Int) (r : ByteArray) (w : World) (hr0 : Kd.C (Kd.int .u8) w A0 l0.length l0) (hc0 : l0.length ≤ c0) (h : spec_DrawReadAddress.f k l0 = some r) :
    Calls Tryd.prog 25 #[.slice A0 l0.length c0] w fun e w' => e = .returned (.string r) ∧ Below w.heap.size w w' := by
  have HR0 := Aside0.mk hr0
  have HC0 := Aside0.mk hc0
  clear hr0 hc0
  have HB := Aside0.mk (Below.refl w.heap.size w)
  have H : ((spec_l1New.f k l0).bind fun bt298 => ((spec_l8DrawAddress.f bt298.1 bt298.2.1 bt298.2.2).bind fun bt302 => ((spec_WriteAddress.f k bt302.1).bind fun bt307 => ((spec_l1Below.f bt298.1 bt302.2.1 bt302.2.2 6).bind fun bt309 => (if bt309.1 = 0 then ((spec_l1Pick.f bt298.1 bt309.2.1 bt309.2.2 (([(⟨#[]⟩ : ByteArray), (⟨#[49, 46, 50, 46, 51]⟩ : ByteArray), (⟨#[49, 46, 50, 46, 51, 46, 52, 46, 53]⟩ : ByteArray), (⟨#[48, 49, 46, 50, 46, 51, 46, 52]⟩ : ByteArray), (⟨#[49, 46, 50, 46, 51, 46, 50, 53, 54]⟩ : ByteArray), (⟨#[49, 46, 50, 46, 51, 46]⟩ : ByteArray), (⟨#[97, 46, 50, 46, 51, 46, 52]⟩ : ByteArray), (⟨#[49, 46, 50, 46, 51, 46, 48, 48, 48, 52]⟩ : ByteArray), (⟨#[48, 46, 48, 46, 48, 46, 48]⟩ : ByteArray), (⟨#[49, 46, 46, 50, 46, 51]⟩ : ByteArray), (⟨#[32, 49, 46, 50, 46, 51, 46, 52]⟩ : ByteArray)] : List ByteArray))).bind fun bt315 => (some bt315.1)) else (if bt309.1 = 1 then (if (bt307.1.size : Int) > 0 then ((spec_l1Below.f bt298.1 bt309.2.1 bt309.2.2 (bt307.1.size : Int)).bind fun bt318 => (if 0 ≤ bt318.1 then (if bt318.1 ≤ (bt307.1.size : Int) then (some (bt307.1.extract 0 (bt318.1 : Int).toNat)) else (none)) else (none))) else (some bt307.1)) else (some bt307.1))))))) = some r := h
  clear h
  replace H := Option.bind_eq_some_iff.mp H
  obtain ⟨⟨t298, t299, t300⟩, A20, H⟩ := H
  replace H : ((spec_l8DrawAddress.f t298 t299 t300).bind fun bt302 => ((spec_WriteAddress.f k bt302.1).bind fun bt307 => ((spec_l1Below.f t298 bt302.2.1 bt302.2.2 6).bind fun bt309 => (if bt309.1 = 0 then ((spec_l1Pick.f t298 bt309.2.1 bt309.2.2 (([(⟨#[]⟩ : ByteArray), (⟨#[49, 46, 50, 46, 51]⟩ : ByteArray), (⟨#[49, 46, 50, 46, 51, 46, 52, 46, 53]⟩ : ByteArray), (⟨#[48, 49, 46, 50, 46, 51, 46, 52]⟩ : ByteArray), (⟨#[49, 46, 50, 46, 51, 46, 50, 53, 54]⟩ : ByteArray), (⟨#[49, 46, 50, 46, 51, 46]⟩ : ByteArray), (⟨#[97, 46, 50, 46, 51, 46, 52]⟩ : ByteArray), (⟨#[49, 46, 50, 46, 51, 46, 48, 48, 48, 52]⟩ : ByteArray), (⟨#[48, 46, 48, 46, 48, 46, 48]⟩ : ByteArray), (⟨#[49, 46, 46, 50, 46, 51]⟩ : ByteArray), (⟨#[32, 49, 46, 50, 46, 51, 46, 52]⟩ : ByteArray)] : List ByteArray))).bind fun bt315 => (some bt315.1)) else (if bt309.1 = 1 then (if (bt307.1.size : Int) > 0 then ((spec_l1Below.f t298 bt309.2.1 bt309.2.2 (bt307.1.size : Int)).bind fun bt318 => (if 0 ≤ bt318.1 then (if bt318.1 ≤ (bt307.1.size : Int) then (some (bt307.1.extract 0 (bt318.1 : Int).toNat)) else (none)) else (none))) else (some bt307.1)) else (some bt307.1)))))) = some r := H
  have A2 := Aside0.mk A20
  clear A20
  replace H := Option.bind_eq_some_iff.mp H
  obtain ⟨⟨t302, t305, t306⟩, A30, H⟩ := H
  replace H : ((spec_WriteAddress.f k t302).bind fun bt307 => ((spec_l1Below.f t298 t305 t306 6).bind fun bt309 => (if bt309.1 = 0 then ((spec_l1Pick.f t298 bt309.2.1 bt309.2.2 (([(⟨#[]⟩ : ByteArray), (⟨#[49, 46, 50, 46, 51]⟩ : ByteArray), (⟨#[49, 46, 50, 46, 51, 46, 52, 46, 53]⟩ : ByteArray), (⟨#[48, 49, 46, 50, 46, 51, 46, 52]⟩ : ByteArray), (⟨#[49, 46, 50, 46, 51, 46, 50, 53, 54]⟩ : ByteArray), (⟨#[49, 46, 50, 46, 51, 46]⟩ : ByteArray), (⟨#[97, 46, 50, 46, 51, 46, 52]⟩ : ByteArray), (⟨#[49, 46, 50, 46, 51, 46, 48, 48, 48, 52]⟩ : ByteArray), (⟨#[48, 46, 48, 46, 48, 46, 48]⟩ : ByteArray), (⟨#[49, 46, 46, 50, 46, 51]⟩ : ByteArray), (⟨#[32, 49, 46, 50, 46, 51, 46, 52]⟩ : ByteArray)] : List ByteArray))).bind fun bt315 => (some bt315.1)) else (if bt309.1 = 1 then (if (bt307.1.size : Int) > 0 then ((spec_l1Below.f t298 bt309.2.1 bt309.2.2 (bt307.1.size : Int)).bind fun bt318 => (if 0 ≤ bt318.1 then (if bt318.1 ≤ (bt307.1.size : Int) then (some (bt307.1.extract 0 (bt318.1 : Int).toNat)) else (none)) else (none))) else (some bt307.1)) else (some bt307.1))))) = some r := H
  have A3 := Aside0.mk A30
  clear A30
  replace H := Option.bind_eq_some_iff.mp H
  obtain ⟨⟨t307, t308⟩, A40, H⟩ := H
  replace H : ((spec_l1Below.f t298 t305 t306 6).bind fun bt309 => (if bt309.1 = 0 then ((spec_l1Pick.f t298 bt309.2.1 bt309.2.2 (([(⟨#[]⟩ : ByteArray), (⟨#[49, 46, 50, 46, 51]⟩ : ByteArray), (⟨#[49, 46, 50, 46, 51, 46, 52, 46, 53]⟩ : ByteArray), (⟨#[48, 49, 46, 50, 46, 51, 46, 52]⟩ : ByteArray), (⟨#[49, 46, 50, 46, 51, 46, 50, 53, 54]⟩ : ByteArray), (⟨#[49, 46, 50, 46, 51, 46]⟩ : ByteArray), (⟨#[97, 46, 50, 46, 51, 46, 52]⟩ : ByteArray), (⟨#[49, 46, 50, 46, 51, 46, 48, 48, 48, 52]⟩ : ByteArray), (⟨#[48, 46, 48, 46, 48, 46, 48]⟩ : ByteArray), (⟨#[49, 46, 46, 50, 46, 51]⟩ : ByteArray), (⟨#[32, 49, 46, 50, 46, 51, 46, 52]⟩ : ByteArray)] : List ByteArray))).bind fun bt315 => (some bt315.1)) else (if bt309.1 = 1 then (if (t307.size : Int) > 0 then ((spec_l1Below.f t298 bt309.2.1 bt309.2.2 (t307.size : Int)).bind fun bt318 => (if 0 ≤ bt318.1 then (if bt318.1 ≤ (t307.size : Int) then (some (t307.extract 0 (bt318.1 : Int).toNat)) else (none)) else (none))) else (some t307)) else (some t307)))) = some r := H
  have A4 := Aside0.mk A40
  clear A40
  replace H := Option.bind_eq_some_iff.mp H
  obtain ⟨⟨t309, t310, t311⟩, A50, H⟩ := H
  replace H : (if t309 = 0 then ((spec_l1Pick.f t298 t310 t311 (([(⟨#[]⟩ : ByteArray), (⟨#[49, 46, 50, 46, 51]⟩ : ByteArray), (⟨#[49, 46, 50, 46, 51, 46, 52, 46, 53]⟩ : ByteArray), (⟨#[48, 49, 46, 50, 46, 51, 46, 52]⟩ : ByteArray), (⟨#[49, 46, 50, 46, 51, 46, 50, 53, 54]⟩ : ByteArray), (⟨#[49, 46, 50, 46, 51, 46]⟩ : ByteArray), (⟨#[97, 46, 50, 46, 51, 46, 52]⟩ : ByteArray), (⟨#[49, 46, 50, 46, 51, 46, 48, 48, 48, 52]⟩ : ByteArray), (⟨#[48, 46, 48, 46, 48, 46, 48]⟩ : ByteArray), (⟨#[49, 46, 46, 50, 46, 51]⟩ : ByteArray), (⟨#[32, 49, 46, 50, 46, 51, 46, 52]⟩ : ByteArray)] : List ByteArray))).bind fun bt315 => (some bt315.1)) else (if t309 = 1 then (if (t307.size : Int) > 0 then ((spec_l1Below.f t298 t310 t311 (t307.size : Int)).bind fun bt318 => (if 0 ≤ bt318.1 then (if bt318.1 ≤ (t307.size : Int) then (some (t307.extract 0 (bt318.1 : Int).toNat)) else (none)) else (none))) else (some t307)) else (some t307))) = some r := H
  have A5 := Aside0.mk A50
  clear A50
  by_cases c6 : t309 = 0
  · rw [if_pos c6] at H
    have c6b0 : (t309 == 0) = true := beq_iff_eq.mpr c6
    have c6b1 : (t309 != 0) = false := bne_eq_false_iff_eq.mpr c6
    clear c6
    obtain ⟨y312, hy312⟩ : ∃ y_ : List ByteArray, y_ = (([(⟨#[]⟩ : ByteArray), (⟨#[49, 46, 50, 46, 51]⟩ : ByteArray), (⟨#[49, 46, 50, 46, 51, 46, 52, 46, 53]⟩ : ByteArray), (⟨#[48, 49, 46, 50, 46, 51, 46, 52]⟩ : ByteArray), (⟨#[49, 46, 50, 46, 51, 46, 50, 53, 54]⟩ : ByteArray), (⟨#[49, 46, 50, 46, 51, 46]⟩ : ByteArray), (⟨#[97, 46, 50, 46, 51, 46, 52]⟩ : ByteArray), (⟨#[49, 46, 50, 46, 51, 46, 48, 48, 48, 52]⟩ : ByteArray), (⟨#[48, 46, 48, 46, 48, 46, 48]⟩ : ByteArray), (⟨#[49, 46, 46, 50, 46, 51]⟩ : ByteArray), (⟨#[32, 49, 46, 50, 46, 51, 46, 52]⟩ : ByteArray)] : List ByteArray)) := ⟨_, rfl⟩
    replace H : ((spec_l1Pick.f t298 t310 t311 y312).bind fun bt315 => (some bt315.1)) = some r := by first | (rw [hy312]; with_reducible exact H) | (have H2_ := (Option.bind_some _ _).symm.trans H; rw [hy312]; with_reducible exact H2_) | (have H2_ := (Option.bind_some _ _).symm.trans H; with_reducible exact H2_) | with_reducible exact H | (rw [hy312]; exact H) | exact H
    have Ny312 := Aside0.mk hy312
    clear hy312
    replace H := Option.bind_eq_some_iff.mp H
    obtain ⟨⟨t315, t316, t317⟩, A70, H⟩ := H
    replace H : (some t315) = some r := H
    have A7 := Aside0.mk A70
    clear A70
    obtain rfl := Option.some.inj H
    go_enter Tryd.func25, Tryd.ntmps25
    go_wp2_with (first | ((with_reducible refine gate_callee (f := 48) rfl ?_); refine goesL_ (some 7) rfl rfl Tryd.func48 (by kernel_rfl) rfl #[.slice A0 l0.length c0] rfl (by (try simp only [List.map_toArray, List.map_cons, List.map_nil]); first | done | rfl | (simp only [List.length_drop, List.length_take]; rfl)) ?_; (with_reducible refine (spec_l1New.calls k _ _ l0 t298 t299 t300 w _ ?side1 ?side2 ?side3 A2.out).mono ?_); (case side1 => repeat (first | (with_reducible first | exact HB.out | apply below_alloc | apply pw_below_drewN | apply below_drew1) | exact HB.out)); (case side2 => exact HR0.out); (case side3 => exact HC0.out); rintro e w8 ⟨g301, rfl, hi, hb, hb2⟩; refine ⟨_, rfl, ?_⟩; have n0_ := Aside0.mk (hb); have n1_ := Aside0.mk (hi); clear HB; have HB := n0_; have HI301 := n1_; clear n0_ n1_; (try clear hb); (try clear hb2); (try clear hk); (try clear hi)) | ((with_reducible refine gate_callee (f := 47) rfl ?_); refine goesL_ (some 10) rfl rfl Tryd.func47 (by kernel_rfl) rfl #[.pointer (some ⟨g301, 0, none⟩)] rfl (by (try simp only [List.map_toArray, List.map_cons, List.map_nil]); first | done | rfl | (simp only [List.length_drop, List.length_take]; rfl)) ?_; (with_reducible refine (spec_l8DrawAddress.calls g301 t298 t299 t300 t302 t305 t306 w _ ?side1 ?side2 A3.out).mono ?_); (case side1 => repeat (first | (with_reducible first | exact HI301.out | apply IsS76.alloc | apply IsS76.drewN | apply IsS76.drew | apply IsS76.set_1 | apply IsS76.set_2) | exact HI301.out)); (case side2 => repeat (first | (with_reducible first | exact HB.out | apply below_alloc | apply pw_below_drewN | apply below_drew1 | refine below_set ?_ (IsS76.ge HI301.out)) | exact HB.out)); rintro e w9 ⟨v303, rfl, ho0, hi, hb, hk⟩; refine ⟨_, rfl, ?_⟩; have n0_ := Aside0.mk (Kd.R_lower ho0 (below_size (by repeat (first | (with_reducible first | exact HB.out | apply below_alloc | apply pw_below_drewN | apply below_drew1 | refine below_set ?_ (IsS76.ge HI301.out)) | exact HB.out)))); have n1_ := Aside0.mk (hb); have n2_ := Aside0.mk (hi); clear HB; clear HI301; have HO304 := n0_; have HB := n1_; have HI301 := n2_; clear n0_ n1_ n2_; (try clear hb); (try clear hb2); (try clear hk); (try clear hi); (try clear ho0); obtain ⟨Ao10, co10, eo10⟩ := Kd.R_slice HO304.out; subst eo10) | ((with_reducible refine gate_callee (f := 11) rfl ?_); refine goesL_ (some 11) rfl rfl Tryd.func11 (by kernel_rfl) rfl #[.slice Ao10 t302.length co10] rfl (by (try simp only [List.map_toArray, List.map_cons, List.map_nil]); first | done | rfl | (simp only [List.length_drop, List.length_take]; rfl)) ?_; (with_reducible refine (spec_WriteAddress.calls k _ _ t302 t307 t308 _ ?side1 ?side2 A4.out).mono ?_); (case side1 => repeat (first | exact (Kd.R_reads' HO304.out).2.2 | (with_reducible refine Kd.C_alloc ?_ _) | (with_reducible refine Kd.C_drewN ?_ _) | (with_reducible refine Kd.C_drew ?_))); (case side2 => exact (Kd.R_reads' HO304.out).2.1); rintro e w11 ⟨rfl, hb⟩; refine ⟨_, rfl, ?_⟩; have n0_ := Aside0.mk (Kd.R_below (by (with_reducible repeat (first | apply Kd.R_alloc | apply Kd.R_drewN | apply Kd.R_drew)); exact HO304.out) hb); have n1_ := Aside0.mk (IsS76.below (by repeat (first | (with_reducible first | exact HI301.out | apply IsS76.alloc | apply IsS76.drewN | apply IsS76.drew | apply IsS76.set_1 | apply IsS76.set_2) | exact HI301.out)) hb); have n2_ := Aside0.mk (below_step (by repeat (first | (with_reducible first | exact HB.out | apply below_alloc | apply pw_below_drewN | apply below_drew1 | refine below_set ?_ (IsS76.ge HI301.out)) | exact HB.out)) hb); clear HO304; clear HI301; clear HB; have HO304 := n0_; have HI301 := n1_; have HB := n2_; clear n0_ n1_ n2_; (try clear hb); (try clear hb2); (try clear hk); (try clear hi)) | ((with_reducible refine gate_callee (f := 50) rfl ?_); refine goesL_ (some 15) rfl rfl Tryd.func50 (by kernel_rfl) rfl #[.pointer (some ⟨g301, 0, none⟩), .int .i64 6] rfl (by (try simp only [List.map_toArray, List.map_cons, List.map_nil]); first | done | rfl | (simp only [List.length_drop, List.length_take]; rfl)) ?_; (with_reducible refine (spec_l1Below.calls g301 t298 t305 t306 6 t309 t310 t311 w _ ?side1 ?side2 A5.out).mono ?_); (case side1 => repeat (first | (with_reducible first | exact HI301.out | apply IsS76.alloc | apply IsS76.drewN | apply IsS76.drew | apply IsS76.set_1 | apply IsS76.set_2) | exact HI301.out)); (case side2 => repeat (first | (with_reducible first | exact HB.out | apply below_alloc | apply pw_below_drewN | apply below_drew1 | refine below_set ?_ (IsS76.ge HI301.out)) | exact HB.out)); rintro e w12 ⟨rfl, hi, hb, hk⟩; refine ⟨_, rfl, ?_⟩; have n0_ := Aside0.mk (Kd.R_mono (Kd.R_keep (IsS76.apart (show IsS76 w _ g301 t298 t305 t306 from by repeat (first | (with_reducible first | exact HI301.out | apply IsS76.alloc | apply IsS76.drewN | apply IsS76.drew | apply IsS76.set_1 | apply IsS76.set_2) | exact HI301.out)) (by (with_reducible repeat (first | apply Kd.R_alloc | apply Kd.R_drewN | apply Kd.R_drew)); exact HO304.out) (by decide)) hk (fun _ h => h.2)) (fun _ h => h.1)); have n1_ := Aside0.mk (hb); have n2_ := Aside0.mk (hi); clear HO304; clear HB; clear HI301; have HO304 := n0_; have HB := n1_; have HI301 := n2_; clear n0_ n1_ n2_; (try clear hb); (try clear hb2); (try clear hk); (try clear hi)) | ((with_reducible refine gate_dst (N := 19) rfl ?_); refine Kd.R_lit Kd.string _ 9 ?hg (N := 19) ?hd (xs := ([(⟨#[]⟩ : ByteArray), (⟨#[49, 46, 50, 46, 51]⟩ : ByteArray), (⟨#[49, 46, 50, 46, 51, 46, 52, 46, 53]⟩ : ByteArray), (⟨#[48, 49, 46, 50, 46, 51, 46, 52]⟩ : ByteArray), (⟨#[49, 46, 50, 46, 51, 46, 50, 53, 54]⟩ : ByteArray), (⟨#[49, 46, 50, 46, 51, 46]⟩ : ByteArray), (⟨#[97, 46, 50, 46, 51, 46, 52]⟩ : ByteArray), (⟨#[49, 46, 50, 46, 51, 46, 48, 48, 48, 52]⟩ : ByteArray), (⟨#[48, 46, 48, 46, 48, 46, 48]⟩ : ByteArray), (⟨#[49, 46, 46, 50, 46, 51]⟩ : ByteArray), (⟨#[32, 49, 46, 50, 46, 51, 46, 52]⟩ : ByteArray)] : List ByteArray)) (inner := [.string (⟨#[]⟩ : ByteArray), .string (⟨#[49, 46, 50, 46, 51]⟩ : ByteArray), .string (⟨#[49, 46, 50, 46, 51, 46, 52, 46, 53]⟩ : ByteArray), .string (⟨#[48, 49, 46, 50, 46, 51, 46, 52]⟩ : ByteArray), .string (⟨#[49, 46, 50, 46, 51, 46, 50, 53, 54]⟩ : ByteArray), .string (⟨#[49, 46, 50, 46, 51, 46]⟩ : ByteArray), .string (⟨#[97, 46, 50, 46, 51, 46, 52]⟩ : ByteArray), .string (⟨#[49, 46, 50, 46, 51, 46, 48, 48, 48, 52]⟩ : ByteArray), .string (⟨#[48, 46, 48, 46, 48, 46, 48]⟩ : ByteArray), .string (⟨#[49, 46, 46, 50, 46, 51]⟩ : ByteArray), .string (⟨#[32, 49, 46, 50, 46, 51, 46, 52]⟩ : ByteArray)]) (ok := fun _ => True) (okp := fun _ => True) ?hr ?hp (fun _ hk => hk) trivial (Below.refl _ _) (Nat.le_refl _) (by simp) ?_; (case hd => rfl); (case hg => rfl); (case hr => first | (go_simp; done) | (go_simp; rfl)); (case hp => exact (Reps.one (show Kd.M Kd.string _ _ _ (⟨#[]⟩ : ByteArray) [.string (⟨#[]⟩ : ByteArray)] from rfl) (Reps.one (show Kd.M Kd.string _ _ _ (⟨#[49, 46, 50, 46, 51]⟩ : ByteArray) [.string (⟨#[49, 46, 50, 46, 51]⟩ : ByteArray)] from rfl) (Reps.one (show Kd.M Kd.string _ _ _ (⟨#[49, 46, 50, 46, 51, 46, 52, 46, 53]⟩ : ByteArray) [.string (⟨#[49, 46, 50, 46, 51, 46, 52, 46, 53]⟩ : ByteArray)] from rfl) (Reps.one (show Kd.M Kd.string _ _ _ (⟨#[48, 49, 46, 50, 46, 51, 46, 52]⟩ : ByteArray) [.string (⟨#[48, 49, 46, 50, 46, 51, 46, 52]⟩ : ByteArray)] from rfl) (Reps.one (show Kd.M Kd.string _ _ _ (⟨#[49, 46, 50, 46, 51, 46, 50, 53, 54]⟩ : ByteArray) [.string (⟨#[49, 46, 50, 46, 51, 46, 50, 53, 54]⟩ : ByteArray)] from rfl) (Reps.one (show Kd.M Kd.string _ _ _ (⟨#[49, 46, 50, 46, 51, 46]⟩ : ByteArray) [.string (⟨#[49, 46, 50, 46, 51, 46]⟩ : ByteArray)] from rfl) (Reps.one (show Kd.M Kd.string _ _ _ (⟨#[97, 46, 50, 46, 51, 46, 52]⟩ : ByteArray) [.string (⟨#[97, 46, 50, 46, 51, 46, 52]⟩ : ByteArray)] from rfl) (Reps.one (show Kd.M Kd.string _ _ _ (⟨#[49, 46, 50, 46, 51, 46, 48, 48, 48, 52]⟩ : ByteArray) [.string (⟨#[49, 46, 50, 46, 51, 46, 48, 48, 48, 52]⟩ : ByteArray)] from rfl) (Reps.one (show Kd.M Kd.string _ _ _ (⟨#[48, 46, 48, 46, 48, 46, 48]⟩ : ByteArray) [.string (⟨#[48, 46, 48, 46, 48, 46, 48]⟩ : ByteArray)] from rfl) (Reps.one (show Kd.M Kd.string _ _ _ (⟨#[49, 46, 46, 50, 46, 51]⟩ : ByteArray) [.string (⟨#[49, 46, 46, 50, 46, 51]⟩ : ByteArray)] from rfl) (Reps.one (show Kd.M Kd.string _ _ _ (⟨#[32, 49, 46, 50, 46, 51, 46, 52]⟩ : ByteArray) [.string (⟨#[32, 49, 46, 50, 46, 51, 46, 52]⟩ : ByteArray)] from rfl) (Reps.none _ _))))))))))))); intro v313 w13 ho14 hb hg_ hnew_; clear hg_ hnew_; (first | rw [← Ny312.out] at ho14 | (simp only [Int.reduceToNat] at ho14; rw [← Ny312.out] at ho14)); have n0_ := Aside0.mk (Kd.R_below (by (with_reducible repeat (first | apply Kd.R_alloc | apply Kd.R_drewN | apply Kd.R_drew)); exact HO304.out) hb); have n1_ := Aside0.mk (Kd.R_lower ho14 (below_size (by repeat (first | (with_reducible first | exact HB.out | apply below_alloc | apply pw_below_drewN | apply below_drew1 | refine below_set ?_ (IsS76.ge HI301.out)) | exact HB.out)))); have n2_ := Aside0.mk (IsS76.below (by repeat (first | (with_reducible first | exact HI301.out | apply IsS76.alloc | apply IsS76.drewN | apply IsS76.drew | apply IsS76.set_1 | apply IsS76.set_2) | exact HI301.out)) hb); have n3_ := Aside0.mk (below_step (by repeat (first | (with_reducible first | exact HB.out | apply below_alloc | apply pw_below_drewN | apply below_drew1 | refine below_set ?_ (IsS76.ge HI301.out)) | exact HB.out)) hb); clear HO304; clear HI301; clear HB; have HO304 := n0_; have HO314 := n1_; have HI301 := n2_; have HB := n3_; clear n0_ n1_ n2_ n3_; clear hb ho14; obtain ⟨Ao15, co15, eo15⟩ := Kd.R_slice HO314.out; subst eo15) | ((with_reducible refine gate_callee (f := 53) rfl ?_); refine goesL_ (some 20) rfl rfl Tryd.func53 (by kernel_rfl) rfl #[.pointer (some ⟨g301, 0, none⟩), .slice Ao15 y312.length co15] rfl (by (try simp only [List.map_toArray, List.map_cons, List.map_nil]); first | done | rfl | (simp only [List.length_drop, List.length_take]; rfl)) ?_; (with_reducible refine (spec_l1Pick.calls g301 t298 t310 t311 _ _ y312 t315 t316 t317 w _ ?side1 ?side2 ?side3 ?side4 ?side5 A7.out).mono ?_); (case side1 => repeat (first | (with_reducible first | exact HI301.out | apply IsS76.alloc | apply IsS76.drewN | apply IsS76.drew | apply IsS76.set_1 | apply IsS76.set_2) | exact HI301.out)); (case side2 => repeat (first | (with_reducible first | exact HB.out | apply below_alloc | apply pw_below_drewN | apply below_drew1 | refine below_set ?_ (IsS76.ge HI301.out)) | exact HB.out)); (case side3 => repeat (first | exact (Kd.R_reads' HO314.out).2.2 | (with_reducible refine Kd.C_alloc ?_ _) | (with_reducible refine Kd.C_drewN ?_ _) | (with_reducible refine Kd.C_drew ?_))); (case side4 => exact (Kd.R_reads' HO314.out).2.1); (case side5 => exact far_slice (IsS76.own_ne HI301.out HO314.out (by decide))); rintro e w16 ⟨rfl, hi, hb, hk⟩; refine ⟨_, rfl, ?_⟩; have n0_ := Aside0.mk (Kd.R_mono (Kd.R_keep (IsS76.apart (show IsS76 w _ g301 t298 t310 t311 from by repeat (first | (with_reducible first | exact HI301.out | apply IsS76.alloc | apply IsS76.drewN | apply IsS76.drew | apply IsS76.set_1 | apply IsS76.set_2) | exact HI301.out)) (by (with_reducible repeat (first | apply Kd.R_alloc | apply Kd.R_drewN | apply Kd.R_drew)); exact HO304.out) (by decide)) hk (fun _ h => h.2)) (fun _ h => h.1)); have n1_ := Aside0.mk (Kd.R_mono (Kd.R_keep (IsS76.apart (show IsS76 w _ g301 t298 t310 t311 from by repeat (first | (with_reducible first | exact HI301.out | apply IsS76.alloc | apply IsS76.drewN | apply IsS76.drew | apply IsS76.set_1 | apply IsS76.set_2) | exact HI301.out)) (by (with_reducible repeat (first | apply Kd.R_alloc | apply Kd.R_drewN | apply Kd.R_drew)); exact HO314.out) (by decide)) hk (fun _ h => h.2)) (fun _ h => h.1)); have n2_ := Aside0.mk (hb); have n3_ := Aside0.mk (hi); clear HO304; clear HO314; clear HB; clear HI301; have HO304 := n0_; have HO314 := n1_; have HB := n2_; have HI301 := n3_; clear n0_ n1_ n2_ n3_; (try clear hb); (try clear hb2); (try clear hk); (try clear hi)))
    go_ret
    exact ⟨by first | rfl | (simp [errW_none, errW_some] <;> rfl) | (simp [*, errW_none, errW_some] <;> rfl), by repeat (first | (with_reducible first | exact HB.out | apply below_alloc | apply pw_below_drewN | apply below_drew1 | refine below_set ?_ (IsS76.ge HI301.out)) | exact HB.out)⟩
  · rw [if_neg c6] at H
    have c6b0 : (t309 == 0) = false := beq_eq_false_iff_ne.mpr c6
    have c6b1 : (t309 != 0) = true := bne_iff_ne.mpr c6
    by_cases c17 : t309 = 1
    · rw [if_pos c17] at H
      have c17b0 : (t309 == 1) = true := beq_iff_eq.mpr c17
      have c17b1 : (t309 != 1) = false := bne_eq_false_iff_eq.mpr c17
      clear c17
      by_cases c18 : (t307.size : Int) > 0
      · rw [if_pos c18] at H
        have c18b0 : decide (0 < (t307.size : Int)) = true := decide_eq_true c18
        have c18b1 : decide (0 < t307.size) = true := decide_eq_true (by omega)
        clear c18
        replace H := Option.bind_eq_some_iff.mp H
        obtain ⟨⟨t318, t319, t320⟩, A190, H⟩ := H
        replace H : (if 0 ≤ t318 then (if t318 ≤ (t307.size : Int) then (some (t307.extract 0 (t318 : Int).toNat)) else (none)) else (none)) = some r := H
        have A19 := Aside0.mk A190
        clear A190
        by_cases c20 : 0 ≤ t318
        · rw [if_pos c20] at H
          have c20b0 := eq_true c20
          have c20b1 : decide (0 ≤ t318) = true := decide_eq_true c20
          clear c20
          by_cases c21 : t318 ≤ (t307.size : Int)
          · rw [if_pos c21] at H
            have c21b0 := eq_true c21
            have c21b1 : decide (t318 ≤ (t307.size : Int)) = true := decide_eq_true c21
            clear c21
            obtain rfl := Option.some.inj H
            go_enter Tryd.func25, Tryd.ntmps25
            go_wp2_with (first | ((with_reducible refine gate_callee (f := 48) rfl ?_); refine goesL_ (some 7) rfl rfl Tryd.func48 (by kernel_rfl) rfl #[.slice A0 l0.length c0] rfl (by (try simp only [List.map_toArray, List.map_cons, List.map_nil]); first | done | rfl | (simp only [List.length_drop, List.length_take]; rfl)) ?_; (with_reducible refine (spec_l1New.calls k _ _ l0 t298 t299 t300 w _ ?side1 ?side2 ?side3 A2.out).mono ?_); (case side1 => repeat (first | (with_reducible first | exact HB.out | apply below_alloc | apply pw_below_drewN | apply below_drew1) | exact HB.out)); (case side2 => exact HR0.out); (case side3 => exact HC0.out); rintro e w22 ⟨g301, rfl, hi, hb, hb2⟩; refine ⟨_, rfl, ?_⟩; have n0_ := Aside0.mk (hb); have n1_ := Aside0.mk (hi); clear HB; have HB := n0_; have HI301 := n1_; clear n0_ n1_; (try clear hb); (try clear hb2); (try clear hk); (try clear hi)) | ((with_reducible refine gate_callee (f := 47) rfl ?_); refine goesL_ (some 10) rfl rfl Tryd.func47 (by kernel_rfl) rfl #[.pointer (some ⟨g301, 0, none⟩)] rfl (by (try simp only [List.map_toArray, List.map_cons, List.map_nil]); first | done | rfl | (simp only [List.length_drop, List.length_take]; rfl)) ?_; (with_reducible refine (spec_l8DrawAddress.calls g301 t298 t299 t300 t302 t305 t306 w _ ?side1 ?side2 A3.out).mono ?_); (case side1 => repeat (first | (with_reducible first | exact HI301.out | apply IsS76.alloc | apply IsS76.drewN | apply IsS76.drew | apply IsS76.set_1 | apply IsS76.set_2) | exact HI301.out)); (case side2 => repeat (first | (with_reducible first | exact HB.out | apply below_alloc | apply pw_below_drewN | apply below_drew1 | refine below_set ?_ (IsS76.ge HI301.out)) | exact HB.out)); rintro e w23 ⟨v303, rfl, ho0, hi, hb, hk⟩; refine ⟨_, rfl, ?_⟩; have n0_ := Aside0.mk (Kd.R_lower ho0 (below_size (by repeat (first | (with_reducible first | exact HB.out | apply below_alloc | apply pw_below_drewN | apply below_drew1 | refine below_set ?_ (IsS76.ge HI301.out)) | exact HB.out)))); have n1_ := Aside0.mk (hb); have n2_ := Aside0.mk (hi); clear HB; clear HI301; have HO304 := n0_; have HB := n1_; have HI301 := n2_; clear n0_ n1_ n2_; (try clear hb); (try clear hb2); (try clear hk); (try clear hi); (try clear ho0); obtain ⟨Ao24, co24, eo24⟩ := Kd.R_slice HO304.out; subst eo24) | ((with_reducible refine gate_callee (f := 11) rfl ?_); refine goesL_ (some 11) rfl rfl Tryd.func11 (by kernel_rfl) rfl #[.slice Ao24 t302.length co24] rfl (by (try simp only [List.map_toArray, List.map_cons, List.map_nil]); first | done | rfl | (simp only [List.length_drop, List.length_take]; rfl)) ?_; (with_reducible refine (spec_WriteAddress.calls k _ _ t302 t307 t308 _ ?side1 ?side2 A4.out).mono ?_); (case side1 => repeat (first | exact (Kd.R_reads' HO304.out).2.2 | (with_reducible refine Kd.C_alloc ?_ _) | (with_reducible refine Kd.C_drewN ?_ _) | (with_reducible refine Kd.C_drew ?_))); (case side2 => exact (Kd.R_reads' HO304.out).2.1); rintro e w25 ⟨rfl, hb⟩; refine ⟨_, rfl, ?_⟩; have n0_ := Aside0.mk (Kd.R_below (by (with_reducible repeat (first | apply Kd.R_alloc | apply Kd.R_drewN | apply Kd.R_drew)); exact HO304.out) hb); have n1_ := Aside0.mk (IsS76.below (by repeat (first | (with_reducible first | exact HI301.out | apply IsS76.alloc | apply IsS76.drewN | apply IsS76.drew | apply IsS76.set_1 | apply IsS76.set_2) | exact HI301.out)) hb); have n2_ := Aside0.mk (below_step (by repeat (first | (with_reducible first | exact HB.out | apply below_alloc | apply pw_below_drewN | apply below_drew1 | refine below_set ?_ (IsS76.ge HI301.out)) | exact HB.out)) hb); clear HO304; clear HI301; clear HB; have HO304 := n0_; have HI301 := n1_; have HB := n2_; clear n0_ n1_ n2_; (try clear hb); (try clear hb2); (try clear hk); (try clear hi)) | ((with_reducible refine gate_callee (f := 50) rfl ?_); refine goesL_ (some 15) rfl rfl Tryd.func50 (by kernel_rfl) rfl #[.pointer (some ⟨g301, 0, none⟩), .int .i64 6] rfl (by (try simp only [List.map_toArray, List.map_cons, List.map_nil]); first | done | rfl | (simp only [List.length_drop, List.length_take]; rfl)) ?_; (with_reducible refine (spec_l1Below.calls g301 t298 t305 t306 6 t309 t310 t311 w _ ?side1 ?side2 A5.out).mono ?_); (case side1 => repeat (first | (with_reducible first | exact HI301.out | apply IsS76.alloc | apply IsS76.drewN | apply IsS76.drew | apply IsS76.set_1 | apply IsS76.set_2) | exact HI301.out)); (case side2 => repeat (first | (with_reducible first | exact HB.out | apply below_alloc | apply pw_below_drewN | apply below_drew1 | refine below_set ?_ (IsS76.ge HI301.out)) | exact HB.out)); rintro e w26 ⟨rfl, hi, hb, hk⟩; refine ⟨_, rfl, ?_⟩; have n0_ := Aside0.mk (Kd.R_mono (Kd.R_keep (IsS76.apart (show IsS76 w _ g301 t298 t305 t306 from by repeat (first | (with_reducible first | exact HI301.out | apply IsS76.alloc | apply IsS76.drewN | apply IsS76.drew | apply IsS76.set_1 | apply IsS76.set_2) | exact HI301.out)) (by (with_reducible repeat (first | apply Kd.R_alloc | apply Kd.R_drewN | apply Kd.R_drew)); exact HO304.out) (by decide)) hk (fun _ h => h.2)) (fun _ h => h.1)); have n1_ := Aside0.mk (hb); have n2_ := Aside0.mk (hi); clear HO304; clear HB; clear HI301; have HO304 := n0_; have HB := n1_; have HI301 := n2_; clear n0_ n1_ n2_; (try clear hb); (try clear hb2); (try clear hk); (try clear hi)) | ((with_reducible refine gate_callee (f := 50) rfl ?_); refine goesL_ (some 30) rfl rfl Tryd.func50 (by kernel_rfl) rfl #[.pointer (some ⟨g301, 0, none⟩), .int .i64 (t307.size : Int)] rfl (by (try simp only [List.map_toArray, List.map_cons, List.map_nil]); first | done | rfl | (simp only [List.length_drop, List.length_take]; rfl)) ?_; (with_reducible refine (spec_l1Below.calls g301 t298 t310 t311 (t307.size : Int) t318 t319 t320 w _ ?side1 ?side2 A19.out).mono ?_); (case side1 => repeat (first | (with_reducible first | exact HI301.out | apply IsS76.alloc | apply IsS76.drewN | apply IsS76.drew | apply IsS76.set_1 | apply IsS76.set_2) | exact HI301.out)); (case side2 => repeat (first | (with_reducible first | exact HB.out | apply below_alloc | apply pw_below_drewN | apply below_drew1 | refine below_set ?_ (IsS76.ge HI301.out)) | exact HB.out)); rintro e w27 ⟨rfl, hi, hb, hk⟩; refine ⟨_, rfl, ?_⟩; have n0_ := Aside0.mk (Kd.R_mono (Kd.R_keep (IsS76.apart (show IsS76 w _ g301 t298 t310 t311 from by repeat (first | (with_reducible first | exact HI301.out | apply IsS76.alloc | apply IsS76.drewN | apply IsS76.drew | apply IsS76.set_1 | apply IsS76.set_2) | exact HI301.out)) (by (with_reducible repeat (first | apply Kd.R_alloc | apply Kd.R_drewN | apply Kd.R_drew)); exact HO304.out) (by decide)) hk (fun _ h => h.2)) (fun _ h => h.1)); have n1_ := Aside0.mk (hb); have n2_ := Aside0.mk (hi); clear HO304; clear HB; clear HI301; have HO304 := n0_; have HB := n1_; have HI301 := n2_; clear n0_ n1_ n2_; (try clear hb); (try clear hb2); (try clear hk); (try clear hi)))
            go_ret
            exact ⟨by first | rfl | (simp [errW_none, errW_some] <;> rfl) | (simp [*, errW_none, errW_some] <;> rfl), by repeat (first | (with_reducible first | exact HB.out | apply below_alloc | apply pw_below_drewN | apply below_drew1 | refine below_set ?_ (IsS76.ge HI301.out)) | exact HB.out)⟩
          · rw [if_neg c21] at H
            exact absurd H (by simp)
        · rw [if_neg c20] at H
          exact absurd H (by simp)
      · rw [if_neg c18] at H
        have c18b0 : decide (0 < (t307.size : Int)) = false := decide_eq_false c18
        have c18b1 : decide (0 < t307.size) = false := decide_eq_false (by omega)
        clear c18
        obtain rfl := Option.some.inj H
        go_enter Tryd.func25, Tryd.ntmps25
        go_wp2_with (first | ((with_reducible refine gate_callee (f := 48) rfl ?_); refine goesL_ (some 7) rfl rfl Tryd.func48 (by kernel_rfl) rfl #[.slice A0 l0.length c0] rfl (by (try simp only [List.map_toArray, List.map_cons, List.map_nil]); first | done | rfl | (simp only [List.length_drop, List.length_take]; rfl)) ?_; (with_reducible refine (spec_l1New.calls k _ _ l0 t298 t299 t300 w _ ?side1 ?side2 ?side3 A2.out).mono ?_); (case side1 => repeat (first | (with_reducible first | exact HB.out | apply below_alloc | apply pw_below_drewN | apply below_drew1) | exact HB.out)); (case side2 => exact HR0.out); (case side3 => exact HC0.out); rintro e w28 ⟨g301, rfl, hi, hb, hb2⟩; refine ⟨_, rfl, ?_⟩; have n0_ := Aside0.mk (hb); have n1_ := Aside0.mk (hi); clear HB; have HB := n0_; have HI301 := n1_; clear n0_ n1_; (try clear hb); (try clear hb2); (try clear hk); (try clear hi)) | ((with_reducible refine gate_callee (f := 47) rfl ?_); refine goesL_ (some 10) rfl rfl Tryd.func47 (by kernel_rfl) rfl #[.pointer (some ⟨g301, 0, none⟩)] rfl (by (try simp only [List.map_toArray, List.map_cons, List.map_nil]); first | done | rfl | (simp only [List.length_drop, List.length_take]; rfl)) ?_; (with_reducible refine (spec_l8DrawAddress.calls g301 t298 t299 t300 t302 t305 t306 w _ ?side1 ?side2 A3.out).mono ?_); (case side1 => repeat (first | (with_reducible first | exact HI301.out | apply IsS76.alloc | apply IsS76.drewN | apply IsS76.drew | apply IsS76.set_1 | apply IsS76.set_2) | exact HI301.out)); (case side2 => repeat (first | (with_reducible first | exact HB.out | apply below_alloc | apply pw_below_drewN | apply below_drew1 | refine below_set ?_ (IsS76.ge HI301.out)) | exact HB.out)); rintro e w29 ⟨v303, rfl, ho0, hi, hb, hk⟩; refine ⟨_, rfl, ?_⟩; have n0_ := Aside0.mk (Kd.R_lower ho0 (below_size (by repeat (first | (with_reducible first | exact HB.out | apply below_alloc | apply pw_below_drewN | apply below_drew1 | refine below_set ?_ (IsS76.ge HI301.out)) | exact HB.out)))); have n1_ := Aside0.mk (hb); have n2_ := Aside0.mk (hi); clear HB; clear HI301; have HO304 := n0_; have HB := n1_; have HI301 := n2_; clear n0_ n1_ n2_; (try clear hb); (try clear hb2); (try clear hk); (try clear hi); (try clear ho0); obtain ⟨Ao30, co30, eo30⟩ := Kd.R_slice HO304.out; subst eo30) | ((with_reducible refine gate_callee (f := 11) rfl ?_); refine goesL_ (some 11) rfl rfl Tryd.func11 (by kernel_rfl) rfl #[.slice Ao30 t302.length co30] rfl (by (try simp only [List.map_toArray, List.map_cons, List.map_nil]); first | done | rfl | (simp only [List.length_drop, List.length_take]; rfl)) ?_; (with_reducible refine (spec_WriteAddress.calls k _ _ t302 t307 t308 _ ?side1 ?side2 A4.out).mono ?_); (case side1 => repeat (first | exact (Kd.R_reads' HO304.out).2.2 | (with_reducible refine Kd.C_alloc ?_ _) | (with_reducible refine Kd.C_drewN ?_ _) | (with_reducible refine Kd.C_drew ?_))); (case side2 => exact (Kd.R_reads' HO304.out).2.1); rintro e w31 ⟨rfl, hb⟩; refine ⟨_, rfl, ?_⟩; have n0_ := Aside0.mk (Kd.R_below (by (with_reducible repeat (first | apply Kd.R_alloc | apply Kd.R_drewN | apply Kd.R_drew)); exact HO304.out) hb); have n1_ := Aside0.mk (IsS76.below (by repeat (first | (with_reducible first | exact HI301.out | apply IsS76.alloc | apply IsS76.drewN | apply IsS76.drew | apply IsS76.set_1 | apply IsS76.set_2) | exact HI301.out)) hb); have n2_ := Aside0.mk (below_step (by repeat (first | (with_reducible first | exact HB.out | apply below_alloc | apply pw_below_drewN | apply below_drew1 | refine below_set ?_ (IsS76.ge HI301.out)) | exact HB.out)) hb); clear HO304; clear HI301; clear HB; have HO304 := n0_; have HI301 := n1_; have HB := n2_; clear n0_ n1_ n2_; (try clear hb); (try clear hb2); (try clear hk); (try clear hi)) | ((with_reducible refine gate_callee (f := 50) rfl ?_); refine goesL_ (some 15) rfl rfl Tryd.func50 (by kernel_rfl) rfl #[.pointer (some ⟨g301, 0, none⟩), .int .i64 6] rfl (by (try simp only [List.map_toArray, List.map_cons, List.map_nil]); first | done | rfl | (simp only [List.length_drop, List.length_take]; rfl)) ?_; (with_reducible refine (spec_l1Below.calls g301 t298 t305 t306 6 t309 t310 t311 w _ ?side1 ?side2 A5.out).mono ?_); (case side1 => repeat (first | (with_reducible first | exact HI301.out | apply IsS76.alloc | apply IsS76.drewN | apply IsS76.drew | apply IsS76.set_1 | apply IsS76.set_2) | exact HI301.out)); (case side2 => repeat (first | (with_reducible first | exact HB.out | apply below_alloc | apply pw_below_drewN | apply below_drew1 | refine below_set ?_ (IsS76.ge HI301.out)) | exact HB.out)); rintro e w32 ⟨rfl, hi, hb, hk⟩; refine ⟨_, rfl, ?_⟩; have n0_ := Aside0.mk (Kd.R_mono (Kd.R_keep (IsS76.apart (show IsS76 w _ g301 t298 t305 t306 from by repeat (first | (with_reducible first | exact HI301.out | apply IsS76.alloc | apply IsS76.drewN | apply IsS76.drew | apply IsS76.set_1 | apply IsS76.set_2) | exact HI301.out)) (by (with_reducible repeat (first | apply Kd.R_alloc | apply Kd.R_drewN | apply Kd.R_drew)); exact HO304.out) (by decide)) hk (fun _ h => h.2)) (fun _ h => h.1)); have n1_ := Aside0.mk (hb); have n2_ := Aside0.mk (hi); clear HO304; clear HB; clear HI301; have HO304 := n0_; have HB := n1_; have HI301 := n2_; clear n0_ n1_ n2_; (try clear hb); (try clear hb2); (try clear hk); (try clear hi)))
        go_ret
        exact ⟨by first | rfl | (simp [errW_none, errW_some] <;> rfl) | (simp [*, errW_none, errW_some] <;> rfl), by repeat (first | (with_reducible first | exact HB.out | apply below_alloc | apply pw_below_drewN | apply below_drew1 | refine below_set ?_ (IsS76.ge HI301.out)) | exact HB.out)⟩
    · rw [if_neg c17] at H
      have c17b0 : (t309 == 1) = false := beq_eq_false_iff_ne.mpr c17
      have c17b1 : (t309 != 1) = true := bne_iff_ne.mpr c17
      obtain rfl := Option.some.inj H
      go_enter Tryd.func25, Tryd.ntmps25
      go_wp2_with (first | ((with_reducible refine gate_callee (f := 48) rfl ?_); refine goesL_ (some 7) rfl rfl Tryd.func48 (by kernel_rfl) rfl #[.slice A0 l0.length c0] rfl (by (try simp only [List.map_toArray, List.map_cons, List.map_nil]); first | done | rfl | (simp only [List.length_drop, List.length_take]; rfl)) ?_; (with_reducible refine (spec_l1New.calls k _ _ l0 t298 t299 t300 w _ ?side1 ?side2 ?side3 A2.out).mono ?_); (case side1 => repeat (first | (with_reducible first | exact HB.out | apply below_alloc | apply pw_below_drewN | apply below_drew1) | exact HB.out)); (case side2 => exact HR0.out); (case side3 => exact HC0.out); rintro e w33 ⟨g301, rfl, hi, hb, hb2⟩; refine ⟨_, rfl, ?_⟩; have n0_ := Aside0.mk (hb); have n1_ := Aside0.mk (hi); clear HB; have HB := n0_; have HI301 := n1_; clear n0_ n1_; (try clear hb); (try clear hb2); (try clear hk); (try clear hi)) | ((with_reducible refine gate_callee (f := 47) rfl ?_); refine goesL_ (some 10) rfl rfl Tryd.func47 (by kernel_rfl) rfl #[.pointer (some ⟨g301, 0, none⟩)] rfl (by (try simp only [List.map_toArray, List.map_cons, List.map_nil]); first | done | rfl | (simp only [List.length_drop, List.length_take]; rfl)) ?_; (with_reducible refine (spec_l8DrawAddress.calls g301 t298 t299 t300 t302 t305 t306 w _ ?side1 ?side2 A3.out).mono ?_); (case side1 => repeat (first | (with_reducible first | exact HI301.out | apply IsS76.alloc | apply IsS76.drewN | apply IsS76.drew | apply IsS76.set_1 | apply IsS76.set_2) | exact HI301.out)); (case side2 => repeat (first | (with_reducible first | exact HB.out | apply below_alloc | apply pw_below_drewN | apply below_drew1 | refine below_set ?_ (IsS76.ge HI301.out)) | exact HB.out)); rintro e w34 ⟨v303, rfl, ho0, hi, hb, hk⟩; refine ⟨_, rfl, ?_⟩; have n0_ := Aside0.mk (Kd.R_lower ho0 (below_size (by repeat (first | (with_reducible first | exact HB.out | apply below_alloc | apply pw_below_drewN | apply below_drew1 | refine below_set ?_ (IsS76.ge HI301.out)) | exact HB.out)))); have n1_ := Aside0.mk (hb); have n2_ := Aside0.mk (hi); clear HB; clear HI301; have HO304 := n0_; have HB := n1_; have HI301 := n2_; clear n0_ n1_ n2_; (try clear hb); (try clear hb2); (try clear hk); (try clear hi); (try clear ho0); obtain ⟨Ao35, co35, eo35⟩ := Kd.R_slice HO304.out; subst eo35) | ((with_reducible refine gate_callee (f := 11) rfl ?_); refine goesL_ (some 11) rfl rfl Tryd.func11 (by kernel_rfl) rfl #[.slice Ao35 t302.length co35] rfl (by (try simp only [List.map_toArray, List.map_cons, List.map_nil]); first | done | rfl | (simp only [List.length_drop, List.length_take]; rfl)) ?_; (with_reducible refine (spec_WriteAddress.calls k _ _ t302 t307 t308 _ ?side1 ?side2 A4.out).mono ?_); (case side1 => repeat (first | exact (Kd.R_reads' HO304.out).2.2 | (with_reducible refine Kd.C_alloc ?_ _) | (with_reducible refine Kd.C_drewN ?_ _) | (with_reducible refine Kd.C_drew ?_))); (case side2 => exact (Kd.R_reads' HO304.out).2.1); rintro e w36 ⟨rfl, hb⟩; refine ⟨_, rfl, ?_⟩; have n0_ := Aside0.mk (Kd.R_below (by (with_reducible repeat (first | apply Kd.R_alloc | apply Kd.R_drewN | apply Kd.R_drew)); exact HO304.out) hb); have n1_ := Aside0.mk (IsS76.below (by repeat (first | (with_reducible first | exact HI301.out | apply IsS76.alloc | apply IsS76.drewN | apply IsS76.drew | apply IsS76.set_1 | apply IsS76.set_2) | exact HI301.out)) hb); have n2_ := Aside0.mk (below_step (by repeat (first | (with_reducible first | exact HB.out | apply below_alloc | apply pw_below_drewN | apply below_drew1 | refine below_set ?_ (IsS76.ge HI301.out)) | exact HB.out)) hb); clear HO304; clear HI301; clear HB; have HO304 := n0_; have HI301 := n1_; have HB := n2_; clear n0_ n1_ n2_; (try clear hb); (try clear hb2); (try clear hk); (try clear hi)) | ((with_reducible refine gate_callee (f := 50) rfl ?_); refine goesL_ (some 15) rfl rfl Tryd.func50 (by kernel_rfl) rfl #[.pointer (some ⟨g301, 0, none⟩), .int .i64 6] rfl (by (try simp only [List.map_toArray, List.map_cons, List.map_nil]); first | done | rfl | (simp only [List.length_drop, List.length_take]; rfl)) ?_; (with_reducible refine (spec_l1Below.calls g301 t298 t305 t306 6 t309 t310 t311 w _ ?side1 ?side2 A5.out).mono ?_); (case side1 => repeat (first | (with_reducible first | exact HI301.out | apply IsS76.alloc | apply IsS76.drewN | apply IsS76.drew | apply IsS76.set_1 | apply IsS76.set_2) | exact HI301.out)); (case side2 => repeat (first | (with_reducible first | exact HB.out | apply below_alloc | apply pw_below_drewN | apply below_drew1 | refine below_set ?_ (IsS76.ge HI301.out)) | exact HB.out)); rintro e w37 ⟨rfl, hi, hb, hk⟩; refine ⟨_, rfl, ?_⟩; have n0_ := Aside0.mk (Kd.R_mono (Kd.R_keep (IsS76.apart (show IsS76 w _ g301 t298 t305 t306 from by repeat (first | (with_reducible first | exact HI301.out | apply IsS76.alloc | apply IsS76.drewN | apply IsS76.drew | apply IsS76.set_1 | apply IsS76.set_2) | exact HI301.out)) (by (with_reducible repeat (first | apply Kd.R_alloc | apply Kd.R_drewN | apply Kd.R_drew)); exact HO304.out) (by decide)) hk (fun _ h => h.2)) (fun _ h => h.1)); have n1_ := Aside0.mk (hb); have n2_ := Aside0.mk (hi); clear HO304; clear HB; clear HI301; have HO304 := n0_; have HB := n1_; have HI301 := n2_; clear n0_ n1_ n2_; (try clear hb); (try clear hb2); (try clear hk); (try clear hi)))
      go_ret
      exact ⟨by first | rfl | (simp [errW_none, errW_some] <;> rfl) | (simp [*, errW_none, errW_some] <;> rfl), by repeat (first | (with_reducible first | exact HB.out | apply below_alloc | apply pw_below_drewN | apply below_drew1 | refine below_set ?_ (IsS76.ge HI301.out)) | exact HB.out)⟩

end Go.Proofs.YthfaelbkdhhmdaaDoor.GFnAddresses
