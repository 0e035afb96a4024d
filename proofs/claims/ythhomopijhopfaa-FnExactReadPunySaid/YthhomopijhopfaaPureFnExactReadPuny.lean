/- The program's ReadPuny returns what the reference's returns, for all arguments that the law lets in. -/
import Derived.Test.YthhomopijhopfaaGFnExactReadPunyx9
import Derived.Test.YthhomopijhopfaaBase
namespace Go.Proofs.Ythhomopijhopfaa.Pure
open Go.RowKit Go.Proofs.Ythhomopijhopfaa.GFnExactReadPuny Go.Proofs.YthhomopijhopfaaW.PrintWords Go.Proofs.YthhomopijhopfaaW.PrintLast Go.Proofs.Ythhomopijhopfaa.Base
set_option linter.unusedVariables false
set_option linter.unusedSimpArgs false

theorem l1In_eq (x a b : Int) : spec_l1In.f x a b = some (decide (a ≤ x ∧ x ≤ b)) := by
  unfold spec_l1In.f
  by_cases h : x ≥ a
  · rw [if_pos h]; simp [show a ≤ x from h]
  · rw [if_neg h]; simp [show ¬ a ≤ x from h]
theorem within_eq (x a b : Int) : impl_within.f x a b = some (decide (a ≤ x ∧ x ≤ b)) := l1In_eq x a b
/-! ### Puny: both programs write the same digits -/
theorem str_append (x y : List Int) : strOfNums (x ++ y) = strOfNums x ++ strOfNums y := by
  apply ByteArray.ext
  rw [ByteArray.data_append]
  simp [strOfNums]
theorem thr_range (K b : Int) : 1 ≤ mn 26 (mx 1 (wrap64 (K - b))) ∧ mn 26 (mx 1 (wrap64 (K - b))) ≤ 26 := by unfold mn mx; (repeat' split) <;> omega
def thr (K b : Int) : Int := mn 26 (mx 1 (wrap64 (K - b)))
theorem threshold_eq (K b : Int) : impl_threshold.f K b = some (thr K b) := rfl
theorem l8Threshold_eq (K b : Int) : spec_l8Threshold.f K b = some (thr K b) := by
  unfold spec_l8Threshold.f spec_l1Min.f spec_l1Max.f thr mn mx
  generalize wrap64 (K - b) = x
  by_cases h1 : 26 < x
  · simp [h1, show (1 : Int) < x by omega, show ¬ x < 26 by omega]
  · by_cases h2 : 1 < x
    · by_cases h3 : x < 26
      · simp [h1, h2, h3, show ¬ x < 1 by omega]
      · obtain rfl : x = 26 := by omega
        simp
    · by_cases h3 : x < 1
      · simp [h1, h2, h3]
      · obtain rfl : x = 1 := by omega
        simp
def dgt (d : Int) : Int := if d < 26 then 97 + d else 22 + d
theorem digit_spec (d : Int) (h0 : 0 ≤ d) (h1 : d < 36) : spec_l8PunyDigit.f d = some (dgt d) := by
  unfold spec_l8PunyDigit.f dgt
  by_cases h : d < 26
  · rw [if_pos h, if_pos h]; congr 1; unfold wrap64; omega
  · rw [if_neg h, if_neg h]; congr 1; unfold wrap64; omega
theorem digit_impl (d : Int) (h0 : 0 ≤ d) (h1 : d < 36) : bt (⟨#[97, 98, 99, 100, 101, 102, 103, 104, 105, 106, 107, 108, 109, 110, 111, 112, 113, 114, 115, 116, 117, 118, 119, 120, 121, 122, 48, 49, 50, 51, 52, 53, 54, 55, 56, 57]⟩ : ByteArray) d = dgt d := by
  obtain ⟨n, rfl⟩ := Int.eq_ofNat_of_zero_le h0
  have hn : n < 36 := by omega
  have : ∀ n : Fin 36, bt (⟨#[97, 98, 99, 100, 101, 102, 103, 104, 105, 106, 107, 108, 109, 110, 111, 112, 113, 114, 115, 116, 117, 118, 119, 120, 121, 122, 48, 49, 50, 51, 52, 53, 54, 55, 56, 57]⟩ : ByteArray) (n : Nat) = dgt (n : Nat) := by decide +kernel
  exact this ⟨n, hn⟩
theorem bias_same : ∀ k, (∀ x y, impl_adapted.l0 k x y = spec_l8Bias.l0 k x y) := by
  intro k
  induction k with
  | zero => intro x y; rfl
  | succ k ih => intro x y; rw [impl_adapted.l0.eq_2, spec_l8Bias.l0.eq_2, ih]
theorem bias_f (k : Nat) (a b : Int) (c : Bool) : spec_l8Bias.f k a b c = impl_adapted.f k a b c := by
  unfold spec_l8Bias.f impl_adapted.f
  cases k with
  | zero => rfl
  | succ k =>
    rw [impl_adapted.j0.eq_2, impl_adapted.j0.eq_2, spec_l8Bias.j0.eq_2, spec_l8Bias.j0.eq_2]
    simp only [bias_same]
theorem adapt_loop : ∀ (n : Nat) (x y : Int), 0 ≤ x → x < 35 ^ n * 456 → 0 ≤ y → y + 36 * n ≤ 1000 → n ≤ 8 → ∃ r, 0 ≤ r ∧ r ≤ y + 36 * n + 36 ∧ Ev (fun k => impl_adapted.l0 k x y) r := by
  have stop : ∀ x y : Int, 0 ≤ x → x ≤ 455 → 0 ≤ y → y ≤ 1000 → ∃ r, 0 ≤ r ∧ r ≤ y + 36 ∧ Ev (fun k => impl_adapted.l0 k x y) r := by
    intro x y h0 h1 h2 h3
    have e1 : Aside0 (wrap64 (x + 38) = x + 38) := ⟨w64 (by omega) (by omega)⟩
    have e2 : Aside0 (wrap64 (36 * x) = 36 * x) := ⟨w64 (by omega) (by omega)⟩
    have hq : 0 ≤ (36 * x) / (x + 38) := Int.ediv_nonneg (by omega) (by omega)
    have hq2 : (36 * x) / (x + 38) < 36 := Int.ediv_lt_of_lt_mul (by omega) (by omega)
    refine ⟨y + (36 * x) / (x + 38), by omega, by omega, ?_⟩
    refine Ev.step (fun k => impl_adapted.l0.eq_2 _ _ _) (ev_neg (by omega) ?_)
    rw [e1.out, e2.out, Int.tdiv_eq_ediv_of_nonneg (by omega)]
    refine ev_neg (by omega) ?_
    rw [w64 (x := 36 * x / (x + 38)) (by omega) (by omega), w64 (by omega) (by omega)]
    exact Ev.now _
  intro n
  induction n with
  | zero =>
    intro x y h0 h1 h2 h3 _
    obtain ⟨r, a, b, c⟩ := stop x y h0 (by omega) h2 (by omega)
    exact ⟨r, a, by omega, c⟩
  | succ n ih =>
    intro x y h0 h1 h2 h3 h4
    by_cases c : x > 455
    · have hx : x / 35 < 35 ^ n * 456 := by
        have : x < 35 * (35 ^ n * 456) := by rw [← Int.mul_assoc, Int.mul_comm 35, ← Int.pow_succ]; exact h1
        omega
      have hb : x < 2 ^ 62 := by
        have : (35 : Int) ^ (n + 1) ≤ 35 ^ 8 := by
          have := Nat.pow_le_pow_right (n := 35) (by decide) h4
          rw [← Int.ofNat_le] at this
          rwa [Int.natCast_pow, Int.natCast_pow] at this
        omega
      obtain ⟨r, a, b, d⟩ := ih (x / 35) (y + 36) (by omega) hx (by omega) (by omega) (by omega)
      refine ⟨r, a, by omega, Ev.step (fun k => impl_adapted.l0.eq_2 _ _ _) (ev_pos c ?_)⟩
      rw [Int.tdiv_eq_ediv_of_nonneg (by omega), w64 (x := x / 35) (by omega) (by omega), w64 (by omega) (by omega)]
      exact d
    · obtain ⟨r, a, b, d⟩ := stop x y h0 (by omega) h2 (by omega)
      exact ⟨r, a, by omega, d⟩
theorem adapted_ev (d m : Int) (f : Bool) (h0 : 0 ≤ d) (h1 : d ≤ 43980465111040) (h2 : 1 ≤ m) (h3 : m ≤ 100) : ∃ r, 0 ≤ r ∧ r ≤ 360 ∧ Ev (fun k => impl_adapted.f k d m f) r := by
  have hq : ∀ e : Int, 0 ≤ e → e ≤ 21990232555520 → ∃ r, 0 ≤ r ∧ r ≤ 360 ∧ Ev (fun k => impl_adapted.j0 k e m) r := by
    intro e he0 he1
    have q0 : 0 ≤ e / m := Int.ediv_nonneg he0 (by omega)
    have q1 : e / m ≤ e := Int.ediv_le_self _ he0
    obtain ⟨r, a, b, c⟩ := adapt_loop 8 (e + e / m) 0 (by omega) (by omega) (by omega) (by omega) (by omega)
    refine ⟨r, a, by omega, Ev.step (fun k => impl_adapted.j0.eq_2 _ _ _) (ev_neg (by omega) ?_)⟩
    rw [Int.tdiv_eq_ediv_of_nonneg he0, w64 (x := e / m) (by omega) (by omega), w64 (by omega) (by omega)]
    exact c
  unfold impl_adapted.f
  cases f with
  | true =>
    obtain ⟨r, a, b, c⟩ := hq (d / 700) (by omega) (by omega)
    refine ⟨r, a, b, ev_pos rfl ?_⟩
    rw [Int.tdiv_eq_ediv_of_nonneg h0, w64 (by omega) (by omega)]; exact c
  | false =>
    obtain ⟨r, a, b, c⟩ := hq (d / 2) (by omega) (by omega)
    refine ⟨r, a, b, ev_neg (by simp) ?_⟩
    rw [Int.tdiv_eq_ediv_of_nonneg h0, w64 (by omega) (by omega)]; exact c
/-- the digits of a number: what both programs write -/
theorem told_both (b : Int) : ∀ (n : Nat) (q K : Int), 0 ≤ q → q < 2 ^ n → n ≤ 40 → 36 ≤ K → K + 36 * n ≤ 2000 → ∃ D : List Int, D.length ≤ n + 1 ∧
    (∀ x5 : List Int, x5.length + n ≤ 10000 → Ev (fun k => impl_told.l0 k b x5 q K) (strOfNums (x5 ++ D))) ∧
    (∀ (x0 x4 : List Int) (x6 x7 x8 x10 x13 : Int) (R : ByteArray × Bool), x4.length + n ≤ 10000 →
      Ev (fun k => (spec_l8Bias.f k x8 (wrap64 (x10 + 1)) (x10 == x6)).bind fun t => spec_Puny.l3 k x0 (x4 ++ D) x6 x7 0 t (wrap64 (x10 + 1)) (wrap64 (x13 + 1))) R →
      Ev (fun k => spec_Puny.l4 k x0 x4 x6 x7 x8 b x10 x13 q K) R) := by
  have stop : ∀ (n : Nat) (q K : Int), 0 ≤ q → q < thr K b → ∃ D : List Int, D.length ≤ n + 1 ∧
    (∀ x5 : List Int, x5.length + n ≤ 10000 → Ev (fun k => impl_told.l0 k b x5 q K) (strOfNums (x5 ++ D))) ∧
    (∀ (x0 x4 : List Int) (x6 x7 x8 x10 x13 : Int) (R : ByteArray × Bool), x4.length + n ≤ 10000 →
      Ev (fun k => (spec_l8Bias.f k x8 (wrap64 (x10 + 1)) (x10 == x6)).bind fun t => spec_Puny.l3 k x0 (x4 ++ D) x6 x7 0 t (wrap64 (x10 + 1)) (wrap64 (x13 + 1))) R →
      Ev (fun k => spec_Puny.l4 k x0 x4 x6 x7 x8 b x10 x13 q K) R) := by
    intro n q K h0 h1
    have ht := thr_range K b
    unfold thr at h1
    refine ⟨[dgt q], by simp, ?_, ?_⟩
    · intro x5 hx
      refine Ev.step (fun k => impl_told.l0.eq_2 _ _ _ _ _) (ev_bindc (threshold_eq K b) (ev_pos h1 (ev_pos h0 (ev_pos (by omega) (ev_pos (by omega) ?_)))))
      rw [digit_impl q h0 (by omega)]; exact Ev.now _
    · intro x0 x4 x6 x7 x8 x10 x13 R hx h
      exact Ev.step (fun k => spec_Puny.l4.eq_2 _ _ _ _ _ _ _ _ _ _ _) (ev_bindc (l8Threshold_eq K b) (ev_pos h1 (ev_bindc (digit_spec q h0 (by omega)) (ev_pos (by omega) h))))
  intro n
  induction n with
  | zero =>
    intro q K h0 h1 _ h2 h3
    refine stop 0 q K h0 ?_
    have ht := thr_range K b
    unfold thr; omega
  | succ n ih =>
    intro q K h0 h1 hn h2 h3
    by_cases c : q < thr K b
    · obtain ⟨D, a, d, e⟩ := stop (n + 1) q K h0 c
      exact ⟨D, a, d, e⟩
    · have ht := thr_range K b
      have hT : thr K b = mn 26 (mx 1 (wrap64 (K - b))) := rfl
      rw [← hT] at ht
      have hb : q < 2 ^ 62 := by have := pow2_le (show n + 1 ≤ 62 by omega); omega
      have m0 : 0 ≤ (q - thr K b) % (36 - thr K b) := Int.emod_nonneg _ (by omega)
      have m1 : (q - thr K b) % (36 - thr K b) < 36 - thr K b := Int.emod_lt_of_pos _ (by omega)
      have d0 : 0 ≤ (q - thr K b) / (36 - thr K b) := Int.ediv_nonneg (by omega) (by omega)
      have d1 : (q - thr K b) / (36 - thr K b) < 2 ^ n := by
        refine Int.ediv_lt_of_lt_mul (by omega) ?_
        have h2n : (2 : Int) ^ (n + 1) = 2 ^ n * 2 := Int.pow_succ ..
        have hp : (0 : Int) < 2 ^ n := Int.pow_pos (by decide)
        have : (2 : Int) ^ n * 2 ≤ 2 ^ n * (36 - thr K b) := Int.mul_le_mul_of_nonneg_left (by omega) (by omega)
        omega
      have e1 : Aside0 (wrap64 (q - thr K b) = q - thr K b) := ⟨w64 (by omega) (by omega)⟩
      have e2 : Aside0 (wrap64 (36 - thr K b) = 36 - thr K b) := ⟨w64 (by omega) (by omega)⟩
      have e3 : Int.tmod (q - thr K b) (36 - thr K b) = (q - thr K b) % (36 - thr K b) := Int.tmod_eq_emod_of_nonneg (by omega)
      have e4 : Int.tdiv (q - thr K b) (36 - thr K b) = (q - thr K b) / (36 - thr K b) := Int.tdiv_eq_ediv_of_nonneg (by omega)
      have e5 : Aside0 (wrap64 (thr K b + (q - thr K b) % (36 - thr K b)) = thr K b + (q - thr K b) % (36 - thr K b)) := ⟨w64 (by omega) (by omega)⟩
      have e6 : Aside0 (wrap64 ((q - thr K b) / (36 - thr K b)) = (q - thr K b) / (36 - thr K b)) := Aside0.mk <| by
        have := pow2_le (show n ≤ 62 by omega)
        exact w64 (by omega) (by omega)
      have e7 : Aside0 (wrap64 (K + 36) = K + 36) := ⟨w64 (by omega) (by omega)⟩
      obtain ⟨D, a, d, e⟩ := ih ((q - thr K b) / (36 - thr K b)) (K + 36) d0 d1 (by omega) (by omega) (by omega)
      refine ⟨dgt (thr K b + (q - thr K b) % (36 - thr K b)) :: D, by simp; omega, ?_, ?_⟩
      · intro x5 hx
        refine Ev.step (fun k => impl_told.l0.eq_2 _ _ _ _ _) (ev_bindc (threshold_eq K b) (ev_neg c ?_))
        rw [e1.out, e2.out, e3, e4, e5.out, e6.out, e7.out]
        refine ev_neg (by omega) (ev_pos (by omega) (ev_pos (by omega) (ev_pos (by omega) ?_)))
        rw [digit_impl _ (by omega) (by omega)]
        have := d (x5 ++ [dgt (thr K b + (q - thr K b) % (36 - thr K b))]) (by simp; omega)
        rwa [List.append_assoc] at this
      · intro x0 x4 x6 x7 x8 x10 x13 R hx h
        refine Ev.step (fun k => spec_Puny.l4.eq_2 _ _ _ _ _ _ _ _ _ _ _) (ev_bindc (l8Threshold_eq K b) (ev_neg c ?_))
        rw [e1.out, e2.out, e3, e4, e5.out, e6.out, e7.out]
        refine ev_neg (by omega) (ev_bindc (digit_spec _ (by omega) (by omega)) (ev_pos (by omega) ?_))
        refine e x0 _ x6 x7 x8 x10 x13 R (by simp; omega) ?_
        rw [List.append_assoc]
        exact h
/-- how many numbers are less than m, equal to m -/
def less (w : List Int) (m : Int) : Nat := w.countP (fun c => decide (c < m))
def eqs (w : List Int) (m : Int) : Nat := w.countP (fun c => decide (c = m))
theorem less_succ (w : List Int) (m : Int) : less w (m + 1) = less w m + eqs w m := by
  unfold less eqs
  induction w with
  | nil => rfl
  | cons a w ih =>
    simp only [List.countP_cons, ih]
    by_cases h1 : a < m
    · have h2 : a < m + 1 := by omega
      have h3 : ¬ a = m := by omega
      simp only [decide_eq_true h1, decide_eq_true h2, decide_eq_false h3, if_true]
      simp
      omega
    · by_cases h2 : a = m
      · have h3 : a < m + 1 := by omega
        simp only [decide_eq_false h1, decide_eq_true h2, decide_eq_true h3, if_true]
        simp
        omega
      · have h3 : ¬ a < m + 1 := by omega
        simp only [decide_eq_false h1, decide_eq_false h2, decide_eq_false h3]
        simp
theorem less_le (w : List Int) (m : Int) : less w m ≤ w.length := List.countP_le_length
theorem take_snoc' (l : List Int) (i : Nat) (h : i < l.length) : l.take (i + 1) = l.take i ++ [rd l (i : Int)] := by
  rw [List.take_succ_eq_append_getElem h]; simp [rd, h]
theorem eqs_take (w : List Int) (m : Int) (i : Nat) (h : i < w.length) : eqs (w.take (i + 1)) m = eqs (w.take i) m + if rd w (i : Int) = m then 1 else 0 := by
  rw [take_snoc' w i h]; unfold eqs; rw [List.countP_append]; simp [List.countP_cons]
theorem eqs_take_le (w : List Int) (m : Int) (i : Nat) : eqs (w.take i) m ≤ eqs w m := by
  unfold eqs
  have := List.take_append_drop i w
  conv => rhs; rw [← this, List.countP_append]
  omega
theorem z_step {a b i : Nat} {delta : Int} (het : b = a) (hz : a = 0 ∨ delta ≤ i) : b = 0 ∨ delta + 1 ≤ ((i + 1 : Nat) : Int) := by omega
theorem z_keep {a b i : Nat} {delta : Int} (het : b = a) (hz : a = 0 ∨ delta ≤ i) : b = 0 ∨ delta ≤ ((i + 1 : Nat) : Int) := by omega
theorem z_end {a i : Nat} {delta : Int} (hz : a = 0 ∨ delta ≤ i) (hi : i ≤ 20) : a = 0 ∨ delta ≤ 20 := by omega
/-- the inner loop: what is m is written, h counts up -/
theorem inner_both (w : List Int) (basic : Int) (hw : w.length ≤ 20) (m : Int) (h0 : Nat) (B : Int) (hB : B ≤ 1000000000)
    (hO : ∀ (R : List Int) (delta bias : Int), 0 ≤ delta → delta ≤ B → 0 ≤ bias → bias ≤ 400 → R.length ≤ 50 + 45 * (h0 + eqs w m) → (eqs w m = 0 ∨ delta ≤ 20) →
      ∃ F : List Int, Ev (fun k => impl_puny.l1 k w (strOfNums R) basic (wrap64 (m + 1)) (wrap64 (delta + 1)) bias ((h0 + eqs w m : Nat) : Int)) (strOfNums F) ∧ Ev (fun k => spec_Puny.l1 k w R basic (wrap64 (m + 1)) (wrap64 (delta + 1)) bias ((h0 + eqs w m : Nat) : Int)) (strOfNums F, true)) (hh : h0 + eqs w m ≤ 20) :
    ∀ (d i : Nat) (R : List Int) (delta bias : Int), i + d = w.length → 0 ≤ delta → delta + d ≤ B → 0 ≤ bias → bias ≤ 400 → R.length ≤ 50 + 45 * (h0 + eqs (w.take i) m) → (eqs (w.take i) m = 0 ∨ delta ≤ i) →
      ∃ F : List Int, Ev (fun k => impl_puny.l3 k w (strOfNums R) basic m delta bias ((h0 + eqs (w.take i) m : Nat) : Int) w (w.length : Int) (i : Int)) (strOfNums F) ∧
        Ev (fun k => spec_Puny.l3 k w R basic m delta bias ((h0 + eqs (w.take i) m : Nat) : Int) (i : Int)) (strOfNums F, true) := by
  intro d
  induction d with
  | zero =>
    intro i R delta bias hi hd0 hd1 hb0 hb1 hR hz
    rw [List.take_of_length_le (by omega)] at hR hz ⊢
    obtain ⟨F, f1, f2⟩ := hO R delta bias hd0 (by omega) hb0 hb1 hR (z_end hz (by omega))
    exact ⟨F, Ev.step (fun k => impl_puny.l3.eq_2 _ _ _ _ _ _ _ _ _ _ _) (ev_neg (by omega) f1), Ev.step (fun k => spec_Puny.l3.eq_2 _ _ _ _ _ _ _ _ _) (ev_neg (by omega) f2)⟩
  | succ d ih =>
    intro i R delta bias hi hd0 hd1 hb0 hb1 hR hz
    have het := eqs_take w m i (by omega)
    have hle := eqs_take_le w m i
    have hle1 := eqs_take_le w m (i + 1)
    have ei : Aside0 (wrap64 ((i : Int) + 1) = ((i + 1 : Nat) : Int)) := ⟨by unfold wrap64; omega⟩
    by_cases c1 : rd w (i : Int) < m
    · rw [if_neg (by omega), Nat.add_zero] at het
      obtain ⟨F, f1, f2⟩ := ih (i + 1) R (delta + 1) bias (by omega) (by omega) (by omega) hb0 hb1 (by rw [het]; exact hR) (z_step het hz)
      rw [het] at f1 f2
      refine ⟨F, ?_, ?_⟩
      · refine Ev.step (fun k => impl_puny.l3.eq_2 _ _ _ _ _ _ _ _ _ _ _) (ev_pos (by omega) (ev_pos (by omega) (ev_pos (by omega) (ev_pos c1 ?_))))
        refine Ev.step (fun k => impl_puny.j5.eq_2 _ _ _ _ _ _ _ _ _ _ _ _) (ev_neg (by omega) ?_)
        rw [ei.out, w64 (by omega) (by omega)]; exact f1
      · refine Ev.step (fun k => spec_Puny.l3.eq_2 _ _ _ _ _ _ _ _ _) (ev_pos (by omega) (ev_pos (by omega) (ev_pos c1 ?_)))
        refine Ev.step (fun k => spec_Puny.j5.eq_2 _ _ _ _ _ _ _ _ _) (ev_pos (by omega) (ev_pos (by omega) (ev_neg (by omega) ?_)))
        rw [ei.out, w64 (by omega) (by omega)]; exact f2
    · by_cases c2 : rd w (i : Int) = m
      · rw [if_pos c2] at het
        obtain ⟨D, dl, t1, t2⟩ := told_both bias 40 delta 36 hd0 (by have := hB; clear hO hR hz hle hle1 het ih; omega) (by decide) (by decide) (by decide)
        obtain ⟨nb, n0, n1, n2⟩ := adapted_ev delta ((h0 + eqs (w.take i) m : Nat) + 1) (((h0 + eqs (w.take i) m : Nat) : Int) == basic) hd0 (by omega) (by omega) (by omega)
        obtain ⟨F, f1, f2⟩ := ih (i + 1) (R ++ D) 0 nb (by omega) (by omega) (by omega) n0 (by omega) (by simp; omega) (.inr (Int.natCast_nonneg _))
        have eh : Aside0 (wrap64 (((h0 + eqs (w.take i) m : Nat) : Int) + 1) = ((h0 + eqs (w.take (i + 1)) m : Nat) : Int)) := ⟨by rw [het]; unfold wrap64; omega⟩
        have eh' : ((h0 + eqs (w.take i) m : Nat) : Int) + 1 = ((h0 + eqs (w.take (i + 1)) m : Nat) : Int) := by rw [het]; omega
        rw [eh'] at n2
        refine ⟨F, ?_, ?_⟩
        · refine Ev.step (fun k => impl_puny.l3.eq_2 _ _ _ _ _ _ _ _ _ _ _) (ev_pos (by omega) (ev_pos (by omega) (ev_pos (by omega) (ev_neg c1 ?_))))
          have ht : Ev (fun k => impl_told.f k delta bias) (strOfNums D) := by
            exact t1 [] (by simp)
          refine Ev.step (fun k => impl_puny.j5.eq_2 _ _ _ _ _ _ _ _ _ _ _ _) (ev_pos c2 (Ev.bind ht (ev_pos (by rw [strOfNums_size, strOfNums_size]; omega) ?_)))
          rw [eh.out, ei.out, ← str_append]
          exact Ev.bind n2 f1
        · refine Ev.step (fun k => spec_Puny.l3.eq_2 _ _ _ _ _ _ _ _ _) (ev_pos (by omega) (ev_pos (by omega) (ev_neg c1 ?_)))
          refine Ev.step (fun k => spec_Puny.j5.eq_2 _ _ _ _ _ _ _ _ _) (ev_pos (by omega) (ev_pos (by omega) (ev_pos c2 ?_)))
          refine t2 _ _ _ _ _ _ _ _ (by omega) ?_
          rw [eh.out, ei.out]
          exact Ev.bind (Ev.congr (fun k => bias_f k _ _ _) n2) f2
      · rw [if_neg c2, Nat.add_zero] at het
        obtain ⟨F, f1, f2⟩ := ih (i + 1) R delta bias (by omega) (by omega) (by omega) hb0 hb1 (by rw [het]; exact hR) (z_keep het hz)
        rw [het] at f1 f2
        refine ⟨F, ?_, ?_⟩
        · refine Ev.step (fun k => impl_puny.l3.eq_2 _ _ _ _ _ _ _ _ _ _ _) (ev_pos (by omega) (ev_pos (by omega) (ev_pos (by omega) (ev_neg c1 ?_))))
          refine Ev.step (fun k => impl_puny.j5.eq_2 _ _ _ _ _ _ _ _ _ _ _ _) (ev_neg c2 ?_)
          rw [ei.out]; exact f1
        · refine Ev.step (fun k => spec_Puny.l3.eq_2 _ _ _ _ _ _ _ _ _) (ev_pos (by omega) (ev_pos (by omega) (ev_neg c1 ?_)))
          refine Ev.step (fun k => spec_Puny.j5.eq_2 _ _ _ _ _ _ _ _ _) (ev_pos (by omega) (ev_pos (by omega) (ev_neg c2 ?_)))
          rw [ei.out]; exact f2
/-- the least number from n on -/
theorem least_both (w : List Int) (hw : w.length ≤ 20) (hr : ∀ x ∈ w, 0 ≤ x ∧ x ≤ 1114111) (n : Int) (hn0 : 0 ≤ n) : ∀ (d i : Nat) (m : Int), i + d = w.length → n ≤ m → m ≤ 1114112 → (m = 1114112 ∨ m ∈ w) → (∀ j, j < i → rd w (j : Int) < n ∨ m ≤ rd w (j : Int)) →
    ∃ m', n ≤ m' ∧ m' ≤ 1114112 ∧ (m' = 1114112 ∨ m' ∈ w) ∧ (∀ x ∈ w, x < n ∨ m' ≤ x) ∧
      (∀ (x6 : ByteArray) (x7 x9 x10 x11 : Int) (R : ByteArray), Ev (fun k => impl_puny.l3 k w x6 x7 m' (wrap64 (x9 + (wrap64 ((wrap64 (m' - n)) * (wrap64 (x11 + 1)))))) x10 x11 w (w.length : Int) 0) R → Ev (fun k => impl_puny.l2 k w x6 x7 n x9 x10 x11 m w (w.length : Int) (i : Int)) R) ∧
      (∀ (x4 : List Int) (x6 x8 x9 x10 : Int) (R : ByteArray × Bool), Ev (fun k => spec_Puny.l3 k w x4 x6 m' (wrap64 (x8 + (wrap64 ((wrap64 (m' - n)) * (wrap64 (x10 + 1)))))) x9 x10 0) R → Ev (fun k => spec_Puny.l2 k w x4 x6 n x8 x9 x10 m (i : Int)) R) := by
  intro d
  induction d with
  | zero =>
    intro i m hi h1 h2 h3 h4
    refine ⟨m, h1, h2, h3, ?_, ?_, ?_⟩
    · intro x hx
      obtain ⟨j, hj, rfl⟩ := List.mem_iff_getElem.1 hx
      have := h4 j (by omega)
      simpa [rd, hj] using this
    · intro x6 x7 x9 x10 x11 R h
      exact Ev.step (fun k => impl_puny.l2.eq_2 _ _ _ _ _ _ _ _ _ _ _ _) (ev_neg (by omega) h)
    · intro x4 x6 x8 x9 x10 R h
      exact Ev.step (fun k => spec_Puny.l2.eq_2 _ _ _ _ _ _ _ _ _ _) (ev_neg (by omega) h)
  | succ d ih =>
    intro i m hi h1 h2 h3 h4
    have hm := rd_mem (xs := w) (i := (i : Int)) (by omega) (by omega)
    have hrm := hr _ hm
    have ei : Aside0 (wrap64 ((i : Int) + 1) = ((i + 1 : Nat) : Int)) := ⟨by unfold wrap64; omega⟩
    by_cases c : rd w (i : Int) ≥ n
    · have hmn : mn m (rd w (i : Int)) ≤ m ∧ mn m (rd w (i : Int)) ≤ rd w (i : Int) ∧ (mn m (rd w (i : Int)) = m ∨ mn m (rd w (i : Int)) = rd w (i : Int)) := by unfold mn; split <;> omega
      obtain ⟨m', a1, a2, a3, a4, a5, a6⟩ := ih (i + 1) (mn m (rd w (i : Int))) (by omega) (by omega) (by omega) (by rcases hmn.2.2 with e | e <;> rw [e]; exact h3; exact .inr hm) (by
        intro j hj
        by_cases e : j = i
        · subst e; exact .inr hmn.2.1
        · rcases h4 j (by omega) with q | q
          · exact .inl q
          · exact .inr (by omega))
      refine ⟨m', a1, a2, a3, a4, ?_, ?_⟩
      · intro x6 x7 x9 x10 x11 R h
        refine Ev.step (fun k => impl_puny.l2.eq_2 _ _ _ _ _ _ _ _ _ _ _ _) (ev_pos (by omega) (ev_pos (by omega) (ev_pos (by omega) (ev_pos c ?_))))
        rw [ei.out]; exact a5 _ _ _ _ _ _ h
      · intro x4 x6 x8 x9 x10 R h
        have e : spec_l1Min.f m (rd w (i : Int)) = some (mn m (rd w (i : Int))) := by
          unfold spec_l1Min.f mn
          by_cases q : m < rd w (i : Int)
          · rw [if_pos q, if_neg (by omega)]
          · by_cases q' : rd w (i : Int) < m
            · rw [if_neg q, if_pos q']
            · rw [if_neg q, if_neg q']; congr 1; omega
        refine Ev.step (fun k => spec_Puny.l2.eq_2 _ _ _ _ _ _ _ _ _ _) (ev_pos (by omega) (ev_pos (by omega) (ev_pos c (ev_bindc e ?_))))
        rw [ei.out]; exact a6 _ _ _ _ _ _ h
    · obtain ⟨m', a1, a2, a3, a4, a5, a6⟩ := ih (i + 1) m (by omega) h1 h2 h3 (by
        intro j hj
        by_cases e : j = i
        · subst e; exact .inl (by omega)
        · exact h4 j (by omega))
      refine ⟨m', a1, a2, a3, a4, ?_, ?_⟩
      · intro x6 x7 x9 x10 x11 R h
        refine Ev.step (fun k => impl_puny.l2.eq_2 _ _ _ _ _ _ _ _ _ _ _ _) (ev_pos (by omega) (ev_pos (by omega) (ev_pos (by omega) (ev_neg c ?_))))
        rw [ei.out]; exact a5 _ _ _ _ _ _ h
      · intro x4 x6 x8 x9 x10 R h
        refine Ev.step (fun k => spec_Puny.l2.eq_2 _ _ _ _ _ _ _ _ _ _) (ev_pos (by omega) (ev_pos (by omega) (ev_neg c ?_)))
        rw [ei.out]; exact a6 _ _ _ _ _ _ h
theorem less_mid (w : List Int) (n m : Int) (hnm : n ≤ m) (h : ∀ x ∈ w, x < n ∨ m ≤ x) : less w m = less w n := by
  unfold less
  apply List.countP_congr
  intro x hx
  rcases h x hx with a | a
  · simp [a, show x < m by omega]
  · simp [show ¬ x < m by omega, show ¬ x < n by omega]
theorem less_all (w : List Int) (m : Int) (h : ∀ x ∈ w, x < m) : less w m = w.length := by
  unfold less; rw [List.countP_eq_length]; intro x hx; simpa using h x hx
theorem eqs_pos (w : List Int) (m : Int) (h : m ∈ w) : 0 < eqs w m := by
  unfold eqs; rw [List.countP_pos_iff]; exact ⟨m, h, by simp⟩
theorem outer_both (w : List Int) (basic : Int) (hw : w.length ≤ 20) (hr : ∀ x ∈ w, 0 ≤ x ∧ x ≤ 1114111) : ∀ (g : Nat) (n delta bias : Int) (R : List Int), w.length - less w n ≤ g → 0 ≤ n → n ≤ 1114112 → 0 ≤ delta → delta ≤ 21 → 0 ≤ bias → bias ≤ 400 → R.length ≤ 50 + 45 * less w n →
    ∃ F : List Int, Ev (fun k => impl_puny.l1 k w (strOfNums R) basic n delta bias ((less w n : Nat) : Int)) (strOfNums F) ∧ Ev (fun k => spec_Puny.l1 k w R basic n delta bias ((less w n : Nat) : Int)) (strOfNums F, true) := by
  intro g
  induction g with
  | zero =>
    intro n delta bias R hg hn0 hn1 hd0 hd1 hb0 hb1 hR
    have := less_le w n
    exact ⟨R, Ev.step (fun k => impl_puny.l1.eq_2 _ _ _ _ _ _ _ _) (ev_neg (by omega) (Ev.now _)), Ev.step (fun k => spec_Puny.l1.eq_2 _ _ _ _ _ _ _ _) (ev_neg (by omega) (Ev.now _))⟩
  | succ g ih =>
    intro n delta bias R hg hn0 hn1 hd0 hd1 hb0 hb1 hR
    have hle := less_le w n
    by_cases c : ((less w n : Nat) : Int) < (w.length : Int)
    · obtain ⟨m, a1, a2, a3, a4, a5, a6⟩ := least_both w hw hr n hn0 w.length 0 1114112 (by omega) hn1 (by omega) (.inl rfl) (fun j hj => by omega)
      have hmw : m ∈ w := by
        rcases a3 with e | e
        · exfalso
          have : less w n = w.length := less_all w n (fun x hx => by have := hr x hx; rcases a4 x hx with q | q <;> omega)
          omega
        · exact e
      have hm1 := (hr m hmw).2
      have hlm := less_mid w n m a1 a4
      have hls := less_succ w m
      have hep := eqs_pos w m hmw
      have hl1 := less_le w (m + 1)
      have hmul : 0 ≤ (m - n) * ((less w n : Nat) + 1 : Int) ∧ (m - n) * ((less w n : Nat) + 1 : Int) ≤ 1114112 * 21 := by
        constructor
        · exact Int.mul_nonneg (by omega) (by omega)
        · exact Int.le_trans (Int.mul_le_mul_of_nonneg_left (show ((less w n : Nat) + 1 : Int) ≤ 21 by omega) (by omega)) (by omega)
      have e1 : Aside0 (wrap64 (m - n) = m - n) := ⟨w64 (by omega) (by omega)⟩
      have e2 : Aside0 (wrap64 (((less w n : Nat) : Int) + 1) = ((less w n : Nat) : Int) + 1) := ⟨w64 (by omega) (by omega)⟩
      have e3 : Aside0 (wrap64 ((m - n) * (((less w n : Nat) : Int) + 1)) = (m - n) * (((less w n : Nat) : Int) + 1)) := ⟨w64 (by omega) (by omega)⟩
      have e4 : Aside0 (wrap64 (delta + (m - n) * (((less w n : Nat) : Int) + 1)) = delta + (m - n) * (((less w n : Nat) : Int) + 1)) := ⟨w64 (by omega) (by omega)⟩
      have hlt : less w n + eqs w m = less w (m + 1) := by rw [hls, hlm]
      obtain ⟨F, f1, f2⟩ := inner_both w basic hw m (less w n) 30000000 (by decide) (by
          intro R' dl bs q0 q1 q2 q3 q4 q5
          rw [hlt] at q4 ⊢
          rw [w64 (x := m + 1) (by omega) (by omega), w64 (x := dl + 1) (by omega) (by omega)]
          exact ih (m + 1) (dl + 1) bs R' (by omega) (by omega) (by omega) (by omega) (by omega) q2 q3 q4) (by omega)
        w.length 0 R (delta + (m - n) * (((less w n : Nat) : Int) + 1)) bias (by omega) (by omega) (by omega) hb0 hb1 (by simp [eqs]; omega) (.inl (by simp [eqs]))
      have z : eqs (w.take 0) m = 0 := by simp [eqs]
      rw [z, Nat.add_zero] at f1 f2
      refine ⟨F, ?_, ?_⟩
      · refine Ev.step (fun k => impl_puny.l1.eq_2 _ _ _ _ _ _ _ _) (ev_pos c (a5 _ _ _ _ _ _ ?_))
        rw [e1.out, e2.out, e3.out, e4.out]; exact f1
      · refine Ev.step (fun k => spec_Puny.l1.eq_2 _ _ _ _ _ _ _ _) (ev_pos c (a6 _ _ _ _ _ _ ?_))
        rw [e1.out, e2.out, e3.out, e4.out]; exact f2
    · exact ⟨R, Ev.step (fun k => impl_puny.l1.eq_2 _ _ _ _ _ _ _ _) (ev_neg c (Ev.now _)), Ev.step (fun k => spec_Puny.l1.eq_2 _ _ _ _ _ _ _ _) (ev_neg c (Ev.now _))⟩
/-- the plain ones of a word -/
def plainOf (w : List Int) : List Int := w.filter (fun c => decide (c < 128))
theorem plain_length (w : List Int) : (plainOf w).length = less w 128 := by unfold plainOf less; rw [List.countP_eq_length_filter]
theorem plain_take (w : List Int) (i : Nat) (h : i < w.length) : plainOf (w.take (i + 1)) = plainOf (w.take i) ++ if rd w (i : Int) < 128 then [rd w (i : Int)] else [] := by
  rw [take_snoc' w i h]; unfold plainOf; rw [List.filter_append]; simp [List.filter_cons]
theorem puny_both (w : List Int) (hw : w.length ≤ 20) (hr : ∀ x ∈ w, 0 ≤ x ∧ x ≤ 1114111) : ∃ F : List Int, Ev (fun k => impl_puny.f k w) (strOfNums F) ∧ Ev (fun k => spec_Puny.l0 k w [] 0) (strOfNums F, true) := by
  have hpl : ∀ i, i ≤ w.length → (plainOf (w.take i)).length ≤ i := by
    intro i hi
    unfold plainOf
    refine Nat.le_trans (List.length_filter_le _ _) ?_
    rw [List.length_take]; omega
  have fin : ∃ F : List Int, Ev (fun k => impl_puny.l0 k w (plainOf w) w (w.length : Int) (w.length : Int)) (strOfNums F) ∧ Ev (fun k => spec_Puny.l0 k w (plainOf w) (w.length : Int)) (strOfNums F, true) := by
    have hp := plain_length w
    have hl := less_le w 128
    by_cases c : ((plainOf w).length : Int) > 0
    · obtain ⟨F, f1, f2⟩ := outer_both w ((plainOf w).length : Int) hw hr w.length 128 0 72 (plainOf w ++ [45]) (by omega) (by omega) (by omega) (by omega) (by omega) (by omega) (by omega) (by simp; omega)
      rw [← hp] at f1 f2
      refine ⟨F, ?_, ?_⟩
      · refine Ev.step (fun k => impl_puny.l0.eq_2 _ _ _ _ _ _) (ev_neg (by omega) (ev_pos c (ev_pos (by rw [strOfNums_size]; omega) ?_)))
        refine Ev.step (fun k => impl_puny.j1.eq_2 _ _ _ _) ?_
        rw [show (strOfNums (plainOf w) ++ (⟨#[45]⟩ : ByteArray)) = strOfNums (plainOf w ++ [45]) by rw [str_append]; rfl]
        exact f1
      · refine Ev.step (fun k => spec_Puny.l0.eq_2 _ _ _ _) (ev_neg (by omega) (ev_pos c (ev_pos (by omega) ?_)))
        exact Ev.step (fun k => spec_Puny.j1.eq_2 _ _ _ _) f2
    · obtain ⟨F, f1, f2⟩ := outer_both w ((plainOf w).length : Int) hw hr w.length 128 0 72 (plainOf w) (by omega) (by omega) (by omega) (by omega) (by omega) (by omega) (by omega) (by omega)
      rw [← hp] at f1 f2
      refine ⟨F, ?_, ?_⟩
      · refine Ev.step (fun k => impl_puny.l0.eq_2 _ _ _ _ _ _) (ev_neg (by omega) (ev_neg c ?_))
        exact Ev.step (fun k => impl_puny.j1.eq_2 _ _ _ _) f1
      · refine Ev.step (fun k => spec_Puny.l0.eq_2 _ _ _ _) (ev_neg (by omega) (ev_neg c ?_))
        exact Ev.step (fun k => spec_Puny.j1.eq_2 _ _ _ _) f2
  obtain ⟨F, f1, f2⟩ := fin
  have key : ∀ d i : Nat, i + d = w.length → Ev (fun k => impl_puny.l0 k w (plainOf (w.take i)) w (w.length : Int) (i : Int)) (strOfNums F) ∧ Ev (fun k => spec_Puny.l0 k w (plainOf (w.take i)) (i : Int)) (strOfNums F, true) := by
    intro d
    induction d with
    | zero =>
      intro i hi
      obtain rfl : i = w.length := by omega
      rw [List.take_length]
      exact ⟨f1, f2⟩
    | succ d ih =>
      intro i hi
      obtain ⟨g1, g2⟩ := ih (i + 1) (by omega)
      have hm := hr _ (rd_mem (xs := w) (i := (i : Int)) (by omega) (by omega))
      have ei : Aside0 (wrap64 ((i : Int) + 1) = ((i + 1 : Nat) : Int)) := ⟨by unfold wrap64; omega⟩
      have hpi := hpl i (by omega)
      rw [plain_take w i (by omega)] at g1 g2
      by_cases c : rd w (i : Int) < 128
      · rw [if_pos c] at g1 g2
        refine ⟨?_, ?_⟩
        · refine Ev.step (fun k => impl_puny.l0.eq_2 _ _ _ _ _ _) (ev_pos (by omega) (ev_pos (by omega) (ev_pos (by omega) (ev_pos c (ev_pos (by omega) ?_)))))
          rw [ei.out, show rd w (i : Int) % 256 = rd w (i : Int) by omega]; exact g1
        · refine Ev.step (fun k => spec_Puny.l0.eq_2 _ _ _ _) (ev_pos (by omega) (ev_pos (by omega) (ev_pos c (ev_pos (by omega) ?_))))
          rw [ei.out, show rd w (i : Int) % 256 = rd w (i : Int) by omega]; exact g2
      · rw [if_neg c, List.append_nil] at g1 g2
        refine ⟨?_, ?_⟩
        · refine Ev.step (fun k => impl_puny.l0.eq_2 _ _ _ _ _ _) (ev_pos (by omega) (ev_pos (by omega) (ev_pos (by omega) (ev_neg c ?_))))
          rw [ei.out]; exact g1
        · refine Ev.step (fun k => spec_Puny.l0.eq_2 _ _ _ _) (ev_pos (by omega) (ev_pos (by omega) (ev_neg c ?_)))
          rw [ei.out]; exact g2
  exact ⟨F, key w.length 0 (by omega)⟩
theorem allWithin_ev (l : List Int) (a b : Int) (hl : l.length ≤ 1099511627776) : Ev (fun k => impl_allWithin.f k l a b) (l.all (fun x => decide (a ≤ x ∧ x ≤ b))) := by
  rw [← all_range_rd, ← Bool.and_true (List.all _ _)]
  refine all_ev (L := fun k i => impl_allWithin.l0 k a b l (l.length : Int) i) l.length ?_ ?_ ?_
  · intro i hi hp r h
    refine Ev.step (fun k => impl_allWithin.l0.eq_2 _ _ _ _ _ _) (ev_pos (by omega) (ev_pos (by omega) (ev_pos (by omega) (ev_bindc (within_eq _ _ _) (ev_pos hp ?_)))))
    rw [w64 (by omega) (by omega)]; exact h
  · intro i hi hp
    exact Ev.step (fun k => impl_allWithin.l0.eq_2 _ _ _ _ _ _) (ev_pos (by omega) (ev_pos (by omega) (ev_pos (by omega) (ev_bindc (within_eq _ _ _) (ev_neg (by rw [hp]; simp) (Ev.now _))))))
  · exact Ev.step (fun k => impl_allWithin.l0.eq_2 _ _ _ _ _ _) (ev_neg (by omega) (Ev.now _))
def wordOk (w : List Int) : Bool := w.all (fun x => decide (0 ≤ x ∧ x ≤ 1114111)) && decide (1 ≤ (w.length : Int) ∧ (w.length : Int) ≤ 20)
theorem isWord_ev (w : List Int) (hl : w.length ≤ 1048576) : Ev (fun k => impl_isWord.f k w) (wordOk w) := by
  unfold wordOk
  refine ev_bindc (within_eq _ _ _) ?_
  by_cases h : 1 ≤ (w.length : Int) ∧ (w.length : Int) ≤ 20
  · rw [decide_eq_true h, Bool.and_true]
    exact ev_pos rfl (Ev.bind (allWithin_ev w 0 1114111 (by omega)) (Ev.now _))
  · rw [decide_eq_false h, Bool.and_false]
    exact ev_neg (by simp) (Ev.now _)
theorem l8WordOk_ev (w : List Int) (hl : w.length ≤ 1048576) : Ev (fun k => spec_l8WordOk.f k w) (wordOk w) := by
  unfold wordOk
  rw [← all_range_rd]
  refine all_ev (L := fun k i => spec_l8WordOk.l0 k w i) w.length ?_ ?_ ?_
  · intro i hi hp r h
    refine Ev.step (fun k => spec_l8WordOk.l0.eq_2 _ _ _) (ev_pos (by omega) (ev_pos (by omega) (ev_bindc (l1In_eq _ _ _) (ev_pos hp ?_))))
    rw [w64 (by omega) (by omega)]; exact h
  · intro i hi hp
    exact Ev.step (fun k => spec_l8WordOk.l0.eq_2 _ _ _) (ev_pos (by omega) (ev_pos (by omega) (ev_bindc (l1In_eq _ _ _) (ev_neg (by rw [hp]; simp) (Ev.now _)))))
  · exact Ev.step (fun k => spec_l8WordOk.l0.eq_2 _ _ _) (ev_neg (by omega) (ev_bindc (l1In_eq _ _ _) (Ev.now _)))
theorem wordOk_parts {w : List Int} (h : wordOk w = true) : w.length ≤ 20 ∧ 1 ≤ w.length ∧ ∀ x ∈ w, 0 ≤ x ∧ x ≤ 1114111 := by
  unfold wordOk at h
  simp only [Bool.and_eq_true, List.all_eq_true, decide_eq_true_eq] at h
  exact ⟨by omega, by omega, h.1⟩
/-! ### ReadPuny -/
def dval (b : Int) : Int := if 97 ≤ b ∧ b ≤ 122 then b - 97 else if 48 ≤ b ∧ b ≤ 57 then b - 22 else -1
theorem dval_range (b : Int) : -1 ≤ dval b ∧ dval b ≤ 35 := by unfold dval; split <;> (try split) <;> omega
theorem digitOf_ev (b : Int) (h0 : 0 ≤ b) (h1 : b ≤ 255) : Ev (fun k => impl_digitOf.f k b) (dval b) := by
  have no : ¬ (97 ≤ b ∧ b ≤ 122) → Ev (fun k => impl_digitOf.j0 k b false) (dval b) := by
    intro c
    refine Ev.step (fun k => impl_digitOf.j0.eq_2 _ _ _) (ev_neg (by simp) ?_)
    unfold dval
    rw [if_neg c]
    by_cases c2 : 48 ≤ b ∧ b ≤ 57
    · rw [if_pos c2]
      refine ev_bindc (show impl_isDigit.f b = some true by unfold impl_isDigit.f; rw [if_pos (by omega), decide_eq_true c2.2]) (ev_pos rfl ?_)
      rw [show (b - 48) % 256 + 26 = b - 22 by omega]
      exact Ev.now _
    · rw [if_neg c2]
      refine ev_bindc (show impl_isDigit.f b = some false by
        unfold impl_isDigit.f
        by_cases d : b ≥ 48
        · rw [if_pos d, decide_eq_false (by omega)]
        · rw [if_neg d]) (ev_neg (by simp) (Ev.now _))
  by_cases c : b ≥ 97
  · refine ev_pos c ?_
    by_cases c2 : b ≤ 122
    · rw [decide_eq_true c2]
      refine Ev.step (fun k => impl_digitOf.j0.eq_2 _ _ _) (ev_pos rfl ?_)
      unfold dval
      rw [if_pos ⟨c, c2⟩, show (b - 97) % 256 = b - 97 by omega]
      exact Ev.now _
    · rw [decide_eq_false c2]
      exact no (by omega)
  · exact ev_neg c (no (by omega))
theorem punyValue_ev (b : Int) (h0 : 0 ≤ b) (h1 : b ≤ 255) : Ev (fun k => spec_l8PunyValue.f k b) (dval b) := by
  have no : ¬ (97 ≤ b ∧ b ≤ 122) → Ev (fun k => spec_l8PunyValue.j0 k b false) (dval b) := by
    intro c
    refine Ev.step (fun k => spec_l8PunyValue.j0.eq_2 _ _ _) (ev_neg (by simp) ?_)
    unfold dval
    rw [if_neg c]
    by_cases c2 : 48 ≤ b ∧ b ≤ 57
    · rw [if_pos c2]
      refine ev_pos (by omega) (ev_pos (by omega) ?_)
      rw [show (b - 48) % 256 + 26 = b - 22 by omega]
      exact Ev.now _
    · rw [if_neg c2]
      by_cases d : b ≥ 48
      · exact ev_pos d (ev_neg (by omega) (Ev.now _))
      · exact ev_neg d (Ev.now _)
  by_cases c : b ≥ 97
  · refine ev_pos c ?_
    by_cases c2 : b ≤ 122
    · rw [decide_eq_true c2]
      refine Ev.step (fun k => spec_l8PunyValue.j0.eq_2 _ _ _) (ev_pos rfl ?_)
      unfold dval
      rw [if_pos ⟨c, c2⟩, show (b - 97) % 256 = b - 97 by omega]
      exact Ev.now _
    · rw [decide_eq_false c2]
      exact no (by omega)
  · exact ev_neg c (no (by omega))
/-- the digits from a place on: what they come to, and the place behind them -/
def dig (s : ByteArray) (bias : Int) : Nat → Nat → Int → Int → Int → Option (Nat × Int)
  | 0, _, _, _, _ => none
  | r + 1, p, i, w, K => if dval (bt s p) < 0 ∨ i > 1099511627776 ∨ w > 1099511627776 then none else
      if dval (bt s p) < thr K bias then some (p + 1, i + dval (bt s p) * w) else dig s bias r (p + 1) (i + dval (bt s p) * w) (w * (36 - thr K bias)) (K + 36)
theorem thr_in (K b : Int) : 1 ≤ thr K b ∧ thr K b ≤ 26 := thr_range K b
theorem dig_some (s : ByteArray) (bias : Int) : ∀ (r p : Nat) (i w K : Int) (p' : Nat) (i' : Int), 0 ≤ i → 0 ≤ w → dig s bias r p i w K = some (p', i') → p < p' ∧ p' ≤ p + r ∧ i ≤ i' ∧ i' ≤ 39582418599936
  | 0, _, _, _, _, _, _, _, _, h => by cases h
  | r + 1, p, i, w, K, p', i', h0, h1, h => by
    rw [dig] at h
    by_cases c : dval (bt s p) < 0 ∨ i > 1099511627776 ∨ w > 1099511627776
    · rw [if_pos c] at h; cases h
    · rw [if_neg c] at h
      have hd := dval_range (bt s p)
      have ht := thr_in K bias
      have m0 : 0 ≤ dval (bt s p) * w := Int.mul_nonneg (by omega) h1
      have m1 : dval (bt s p) * w ≤ 35 * 1099511627776 := Int.mul_le_mul (by omega) (by omega) h1 (by omega)
      by_cases c2 : dval (bt s p) < thr K bias
      · rw [if_pos c2] at h
        injection h with h
        injection h with h2 h3
        omega
      · rw [if_neg c2] at h
        obtain ⟨a, b, e, f⟩ := dig_some s bias r (p + 1) _ _ _ p' i' (by omega) (Int.mul_nonneg h1 (by omega)) h
        exact ⟨by omega, by omega, by omega, f⟩
def contS (k : Nat) (x0 : ByteArray) (x4 x5 : List Int) (x9 x10 x11 x12 x13 x14 : Int) : Option (List Int × Bool) := ((spec_l8Bias.f k (wrap64 (x11 - x14)) (wrap64 ((x5.length : Int) + 1)) ((x5.length : Int) == x9)).bind fun t208 => (if (wrap64 ((x5.length : Int) + 1)) = 0 then (none) else (if (wrap64 (x10 + (wrap64 (Int.tdiv x11 (wrap64 ((x5.length : Int) + 1)))))) > 1114111 then (some (x4, false)) else (if (wrap64 ((x5.length : Int) + 1)) > 20 then (some (x4, false)) else ((some (([wrap64 (x10 + (wrap64 (Int.tdiv x11 (wrap64 ((x5.length : Int) + 1)))))] : List Int) : List Int)).bind fun y209 => (if 0 ≤ (Int.tmod x11 (wrap64 ((x5.length : Int) + 1))) then (if (Int.tmod x11 (wrap64 ((x5.length : Int) + 1))) ≤ (x5.length : Int) then ((some (x5.drop ((Int.tmod x11 (wrap64 ((x5.length : Int) + 1))) : Int).toNat : List Int)).bind fun y212 => (if y209.length + y212.length < 17592186044416 then ((some (y209 ++ y212 : List Int)).bind fun y216 => ((some (([] : List Int) : List Int)).bind fun y219 => ((some (x5.take ((Int.tmod x11 (wrap64 ((x5.length : Int) + 1))) : Int).toNat : List Int)).bind fun y222 => (if y219.length + y222.length < 17592186044416 then ((some (y219 ++ y222 : List Int)).bind fun y226 => (if y226.length + y216.length < 17592186044416 then (spec_ReadPuny.l2 k x0 x4 (y226 ++ y216) x9 (wrap64 (x10 + (wrap64 (Int.tdiv x11 (wrap64 ((x5.length : Int) + 1)))))) (wrap64 ((Int.tmod x11 (wrap64 ((x5.length : Int) + 1))) + 1)) t208 x13) else (none))) else (none))))) else (none))) else (none)) else (none)))))))
def contI (k : Nat) (x0 : ByteArray) (x4 : List Int) (x5 : ByteArray) (x8 x9 x10 x11 x12 : Int) : Option (List Int × Bool) := ((impl_adapted.f k (wrap64 (x10 - x12)) (wrap64 ((x4.length : Int) + 1)) ((x4.length : Int) == x8)).bind fun t152 => (if (wrap64 ((x4.length : Int) + 1)) = 0 then (none) else ((Hand.slices_Insert_int.f x4 (Int.tmod x10 (wrap64 ((x4.length : Int) + 1))) (([wrap64 (x9 + (wrap64 (Int.tdiv x10 (wrap64 ((x4.length : Int) + 1)))))] : List Int))).bind fun t156 => (impl_ReadPuny.l1 k x0 t156 x5 x8 (wrap64 (x9 + (wrap64 (Int.tdiv x10 (wrap64 ((x4.length : Int) + 1)))))) (wrap64 ((Int.tmod x10 (wrap64 ((x4.length : Int) + 1))) + 1)) t152))))
theorem ext_size (s : ByteArray) (p : Nat) (h : p ≤ s.size) : (s.extract p s.size).size = s.size - p := by
  rw [ByteArray.size_extract]
  omega
theorem dig_spec (s : ByteArray) (word : List Int) (basic n bias old : Int) (hs : s.size ≤ 60) : ∀ (r p : Nat) (i w K : Int), p + r = s.size → 0 ≤ i → i ≤ 39582418599936 → 0 ≤ w → w ≤ 39582418599936 → 0 ≤ K → K + 36 * r ≤ 5000 →
    (dig s bias r p i w K = none → Ev (fun k => spec_ReadPuny.l3 k s [] word basic n i bias (p : Int) old w K) ([], false)) ∧
    (∀ p' i' R, dig s bias r p i w K = some (p', i') → Ev (fun k => contS k s [] word basic n i' bias (p' : Int) old) R → Ev (fun k => spec_ReadPuny.l3 k s [] word basic n i bias (p : Int) old w K) R) := by
  intro r
  induction r with
  | zero =>
    intro p i w K hp _ _ _ _ _ _
    exact ⟨fun _ => Ev.step (fun k => spec_ReadPuny.l3.eq_2 _ _ _ _ _ _ _ _ _ _ _ _) (ev_pos (by omega) (Ev.now _)), fun p' i' R h => by cases h⟩
  | succ r ih =>
    intro p i w K hp h0 h1 h2 h3 h4 h5
    have hb := bt_range s p
    have hv := punyValue_ev (bt s p) hb.1 hb.2
    have hd := dval_range (bt s p)
    have ht := thr_in K bias
    have hp1 : Aside0 (wrap64 ((p : Int) + 1) = ((p + 1 : Nat) : Int)) := ⟨by rw [w64 (by omega) (by omega)]; rfl⟩
    have stop : (dval (bt s p) < 0 ∨ i > 1099511627776 ∨ w > 1099511627776) → Ev (fun k => spec_ReadPuny.l3 k s [] word basic n i bias (p : Int) old w K) ([], false) := by
      intro c
      refine Ev.step (fun k => spec_ReadPuny.l3.eq_2 _ _ _ _ _ _ _ _ _ _ _ _) (ev_neg (by omega) (ev_pos (by omega) (ev_pos (by omega) (Ev.bind hv ?_))))
      have no : Ev (fun k => spec_ReadPuny.j4 k s [] word basic n i bias (wrap64 ((p : Int) + 1)) old w K (dval (bt s p)) true) ([], false) := Ev.step (fun k => spec_ReadPuny.j4.eq_2 _ _ _ _ _ _ _ _ _ _ _ _ _ _) (ev_pos rfl (Ev.now _))
      by_cases c1 : dval (bt s p) < 0
      · exact ev_pos c1 no
      refine ev_neg c1 ?_
      by_cases c2 : i > 1099511627776
      · exact ev_pos c2 no
      refine ev_neg c2 ?_
      rw [decide_eq_true (show w > 1099511627776 by omega)]
      exact no
    rw [dig]
    by_cases c : dval (bt s p) < 0 ∨ i > 1099511627776 ∨ w > 1099511627776
    · rw [if_pos c]
      exact ⟨fun _ => stop c, fun p' i' R h => by cases h⟩
    · rw [if_neg c]
      have m0 : 0 ≤ dval (bt s p) * w := Int.mul_nonneg (by omega) h2
      have m1 : dval (bt s p) * w ≤ 35 * 1099511627776 := Int.mul_le_mul (by omega) (by omega) h2 (by omega)
      have m2 : 0 ≤ w * (36 - thr K bias) := Int.mul_nonneg h2 (by omega)
      have m3 : w * (36 - thr K bias) ≤ 1099511627776 * 35 := Int.mul_le_mul (by omega) (by omega) (by omega) (by omega)
      have e1 : Aside0 (wrap64 (i + wrap64 (dval (bt s p) * w)) = i + dval (bt s p) * w) := ⟨by rw [w64 (x := dval (bt s p) * w) (by omega) (by omega), w64 (by omega) (by omega)]⟩
      have e2 : Aside0 (wrap64 (w * wrap64 (36 - thr K bias)) = w * (36 - thr K bias)) := ⟨by rw [w64 (x := 36 - thr K bias) (by omega) (by omega), w64 (by omega) (by omega)]⟩
      have e3 : Aside0 (wrap64 (K + 36) = K + 36) := ⟨w64 (by omega) (by omega)⟩
      have go : ∀ R, Ev (fun k => if dval (bt s p) < thr K bias then contS k s [] word basic n (i + dval (bt s p) * w) bias ((p + 1 : Nat) : Int) old else spec_ReadPuny.l3 k s [] word basic n (i + dval (bt s p) * w) bias ((p + 1 : Nat) : Int) old (w * (36 - thr K bias)) (K + 36)) R → Ev (fun k => spec_ReadPuny.l3 k s [] word basic n i bias (p : Int) old w K) R := by
        intro R h
        refine Ev.step (fun k => spec_ReadPuny.l3.eq_2 _ _ _ _ _ _ _ _ _ _ _ _) (ev_neg (by omega) (ev_pos (by omega) (ev_pos (by omega) (Ev.bind hv (ev_neg (by omega) (ev_neg (by omega) ?_))))))
        rw [decide_eq_false (show ¬ w > 1099511627776 by omega), hp1.out]
        refine Ev.step (fun k => spec_ReadPuny.j4.eq_2 _ _ _ _ _ _ _ _ _ _ _ _ _ _) (ev_neg (by simp) (ev_bindc (l8Threshold_eq _ _) ?_))
        simp only [e1.out, e2.out, e3.out]
        exact h
      by_cases c2 : dval (bt s p) < thr K bias
      · rw [if_pos c2]
        refine ⟨fun h => (by cases h), fun p' i' R h hR => ?_⟩
        injection h with h
        injection h with g1 g2
        subst g1 g2
        exact go R (ev_pos c2 hR)
      · rw [if_neg c2]
        obtain ⟨a, b⟩ := ih (p + 1) (i + dval (bt s p) * w) (w * (36 - thr K bias)) (K + 36) (by omega) (by omega) (by omega) m2 (by omega) (by omega) (by omega)
        exact ⟨fun h => go _ (ev_neg c2 (a h)), fun p' i' R h hR => go _ (ev_neg c2 (b p' i' R h hR))⟩
theorem ext_next (s : ByteArray) (p : Nat) (h : p < s.size) : (s.extract p s.size).extract 1 (s.extract p s.size).size = s.extract (p + 1) s.size := by
  rw [ext_size s p (by omega)]
  apply ByteArray.ext
  simp only [ByteArray.data_extract, Array.extract_extract]
  congr 1
  have : s.size = s.data.size := rfl
  omega
theorem ext_bt (s : ByteArray) (p : Nat) (h : p < s.size) : bt (s.extract p s.size) 0 = bt s (p : Int) := by
  have e := ext_size s p (by omega)
  unfold bt
  rw [dif_pos (by show (0 : Int).toNat < _; rw [e]; simp; omega), dif_pos (by simpa using h)]
  simp [ByteArray.getElem_extract]
theorem ext_nil (s : ByteArray) (p : Nat) (h : p ≤ s.size) : (s.extract p s.size).toList = ([] : List UInt8) ↔ p = s.size := by
  have e := ext_size s p h
  have e2 : ∀ b : ByteArray, b.toList.length = b.size := fun b => by
    rw [Lib.toList_data, Array.length_toList]
    rfl
  constructor
  · intro g
    have := e2 (s.extract p s.size)
    rw [g] at this
    simp at this
    omega
  · intro g
    apply List.eq_nil_of_length_eq_zero
    rw [e2]
    omega
theorem dig_impl (s : ByteArray) (word : List Int) (basic n bias old : Int) (hs : s.size ≤ 60) : ∀ (r p : Nat) (i w K : Int), p + r = s.size → 0 ≤ i → i ≤ 39582418599936 → 0 ≤ w → w ≤ 39582418599936 → 0 ≤ K → K + 36 * r ≤ 5000 →
    (dig s bias r p i w K = none → Ev (fun k => impl_ReadPuny.l2 k s word (s.extract p s.size) basic n i bias old w K) ([], false)) ∧
    (∀ p' i' R, dig s bias r p i w K = some (p', i') → Ev (fun k => contI k s word (s.extract p' s.size) basic n i' bias old) R → Ev (fun k => impl_ReadPuny.l2 k s word (s.extract p s.size) basic n i bias old w K) R) := by
  intro r
  have no : ∀ (rest : ByteArray) (i w K : Int), Ev (fun k => impl_ReadPuny.j5 k s word rest basic n i bias old w K true) ([], false) := fun rest i w K => Ev.step (fun k => impl_ReadPuny.j5.eq_2 _ _ _ _ _ _ _ _ _ _ _ _) (ev_pos rfl (Ev.now _))
  induction r with
  | zero =>
    intro p i w K hp _ _ _ _ _ _
    exact ⟨fun _ => Ev.step (fun k => impl_ReadPuny.l2.eq_2 _ _ _ _ _ _ _ _ _ _ _) (ev_pos ((ext_nil s p (by omega)).2 (by omega)) (no _ _ _ _)), fun p' i' R h => by cases h⟩
  | succ r ih =>
    intro p i w K hp h0 h1 h2 h3 h4 h5
    have hb := bt_range s p
    have hv := digitOf_ev (bt s p) hb.1 hb.2
    have hd := dval_range (bt s p)
    have ht := thr_in K bias
    have hsz := ext_size s p (by omega)
    have hbt := ext_bt s p (by omega)
    have hnx := ext_next s p (by omega)
    have hnil : ¬ (s.extract p s.size).toList = ([] : List UInt8) := fun h => by have := (ext_nil s p (by omega)).1 h; omega
    have stop : (dval (bt s p) < 0 ∨ i > 1099511627776 ∨ w > 1099511627776) → Ev (fun k => impl_ReadPuny.l2 k s word (s.extract p s.size) basic n i bias old w K) ([], false) := by
      intro c
      refine Ev.step (fun k => impl_ReadPuny.l2.eq_2 _ _ _ _ _ _ _ _ _ _ _) (ev_neg hnil (ev_pos (by omega) ?_))
      rw [hbt]
      refine Ev.bind hv ?_
      by_cases c1 : dval (bt s p) < 0
      · exact ev_pos c1 (no _ _ _ _)
      refine ev_neg c1 ?_
      by_cases c2 : i > 1099511627776
      · exact ev_pos c2 (no _ _ _ _)
      refine ev_neg c2 ?_
      rw [decide_eq_true (show w > 1099511627776 by omega)]
      exact no _ _ _ _
    rw [dig]
    by_cases c : dval (bt s p) < 0 ∨ i > 1099511627776 ∨ w > 1099511627776
    · rw [if_pos c]
      exact ⟨fun _ => stop c, fun p' i' R h => by cases h⟩
    · rw [if_neg c]
      have m0 : 0 ≤ dval (bt s p) * w := Int.mul_nonneg (by omega) h2
      have m1 : dval (bt s p) * w ≤ 35 * 1099511627776 := Int.mul_le_mul (by omega) (by omega) h2 (by omega)
      have m2 : 0 ≤ w * (36 - thr K bias) := Int.mul_nonneg h2 (by omega)
      have m3 : w * (36 - thr K bias) ≤ 1099511627776 * 35 := Int.mul_le_mul (by omega) (by omega) (by omega) (by omega)
      have e1 : Aside0 (wrap64 (i + wrap64 (dval (bt s p) * w)) = i + dval (bt s p) * w) := ⟨by rw [w64 (x := dval (bt s p) * w) (by omega) (by omega), w64 (by omega) (by omega)]⟩
      have e2 : Aside0 (wrap64 (w * wrap64 (36 - thr K bias)) = w * (36 - thr K bias)) := ⟨by rw [w64 (x := 36 - thr K bias) (by omega) (by omega), w64 (by omega) (by omega)]⟩
      have e3 : Aside0 (wrap64 (K + 36) = K + 36) := ⟨w64 (by omega) (by omega)⟩
      have go : ∀ R, Ev (fun k => if dval (bt s p) < thr K bias then contI k s word (s.extract (p + 1) s.size) basic n (i + dval (bt s p) * w) bias old else impl_ReadPuny.l2 k s word (s.extract (p + 1) s.size) basic n (i + dval (bt s p) * w) bias old (w * (36 - thr K bias)) (K + 36)) R → Ev (fun k => impl_ReadPuny.l2 k s word (s.extract p s.size) basic n i bias old w K) R := by
        intro R h
        refine Ev.step (fun k => impl_ReadPuny.l2.eq_2 _ _ _ _ _ _ _ _ _ _ _) (ev_neg hnil (ev_pos (by omega) ?_))
        rw [hbt]
        refine Ev.bind hv (ev_neg (by omega) (ev_neg (by omega) ?_))
        rw [decide_eq_false (show ¬ w > 1099511627776 by omega)]
        refine Ev.step (fun k => impl_ReadPuny.j5.eq_2 _ _ _ _ _ _ _ _ _ _ _ _) (ev_neg (by simp) (ev_pos (by omega) ?_))
        rw [hbt, hnx]
        refine Ev.bind hv (ev_bindc (threshold_eq _ _) (ev_pos (by omega) ?_))
        simp only [e1.out, e2.out, e3.out]
        exact h
      by_cases c2 : dval (bt s p) < thr K bias
      · rw [if_pos c2]
        refine ⟨fun h => (by cases h), fun p' i' R h hR => ?_⟩
        injection h with h
        injection h with g1 g2
        subst g1 g2
        exact go R (ev_pos c2 hR)
      · rw [if_neg c2]
        obtain ⟨a, b⟩ := ih (p + 1) (i + dval (bt s p) * w) (w * (36 - thr K bias)) (K + 36) (by omega) (by omega) (by omega) m2 (by omega) (by omega) (by omega)
        exact ⟨fun h => go _ (ev_neg c2 (a h)), fun p' i' R h hR => go _ (ev_neg c2 (b p' i' R h hR))⟩
theorem insert_some (word : List Int) (i n : Int) (h0 : 0 ≤ i) (h1 : i ≤ (word.length : Int)) (h2 : word.length ≤ 1000) : Hand.slices_Insert_int.f word i [n] = some (word.take i.toNat ++ [n] ++ word.drop i.toNat) := by
  unfold Hand.slices_Insert_int.f
  rw [if_pos h0, if_pos h1, if_pos (show [n].length = 1 from rfl), if_pos (by omega)]
/-- what a group of digits leads to, in both programs: b the new bias, q and m what the place parts into -/
theorem cont_I (s : ByteArray) (word : List Int) (rest : ByteArray) (basic n i bias old : Int) (hl : word.length ≤ 60) (ho : 0 ≤ old) (hi : old ≤ i) (hi1 : i ≤ 39582418599936) (hn : 0 ≤ n) (hn1 : n ≤ 1125899906842624) :
    ∃ b, 0 ≤ b ∧ b ≤ 360 ∧ Ev (fun k => impl_adapted.f k (i - old) ((word.length : Int) + 1) ((word.length : Int) == basic)) b ∧
      ∀ R, Ev (fun k => impl_ReadPuny.l1 k s (word.take (i % ((word.length : Int) + 1)).toNat ++ [n + i / ((word.length : Int) + 1)] ++ word.drop (i % ((word.length : Int) + 1)).toNat) rest basic (n + i / ((word.length : Int) + 1)) (i % ((word.length : Int) + 1) + 1) b) R →
        Ev (fun k => contI k s word rest basic n i bias old) R := by
  obtain ⟨b, b0, b1, hb⟩ := adapted_ev (i - old) ((word.length : Int) + 1) ((word.length : Int) == basic) (by omega) (by omega) (by omega) (by omega)
  refine ⟨b, b0, b1, hb, fun R h => ?_⟩
  have q0 : 0 ≤ i / ((word.length : Int) + 1) := Int.ediv_nonneg (by omega) (by omega)
  have q1 : i / ((word.length : Int) + 1) ≤ i := Int.ediv_le_self _ (by omega)
  have r0 : 0 ≤ i % ((word.length : Int) + 1) := Int.emod_nonneg _ (by omega)
  have r1 : i % ((word.length : Int) + 1) < (word.length : Int) + 1 := Int.emod_lt_of_pos _ (by omega)
  have e1 : Aside0 (wrap64 (i - old) = i - old) := ⟨w64 (by omega) (by omega)⟩
  have e2 : Aside0 (wrap64 ((word.length : Int) + 1) = (word.length : Int) + 1) := ⟨w64 (by omega) (by omega)⟩
  have e3 : Aside0 (Int.tmod i ((word.length : Int) + 1) = i % ((word.length : Int) + 1)) := ⟨Int.tmod_eq_emod_of_nonneg (by omega)⟩
  have e4 : Aside0 (Int.tdiv i ((word.length : Int) + 1) = i / ((word.length : Int) + 1)) := ⟨Int.tdiv_eq_ediv_of_nonneg (by omega)⟩
  have e5 : Aside0 (wrap64 (i / ((word.length : Int) + 1)) = i / ((word.length : Int) + 1)) := ⟨w64 (by omega) (by omega)⟩
  have e6 : Aside0 (wrap64 (n + i / ((word.length : Int) + 1)) = n + i / ((word.length : Int) + 1)) := ⟨w64 (by omega) (by omega)⟩
  have e7 : Aside0 (wrap64 (i % ((word.length : Int) + 1) + 1) = i % ((word.length : Int) + 1) + 1) := ⟨w64 (by omega) (by omega)⟩
  unfold contI
  simp only [e1.out, e2.out, e3.out, e4.out, e5.out, e6.out, e7.out]
  exact Ev.bind hb (ev_neg (by omega) (ev_bindc (insert_some word _ _ r0 (by omega) (by omega)) h))
theorem cont_S (s : ByteArray) (word : List Int) (p : Nat) (basic n i bias old b : Int) (hl : word.length ≤ 60) (ho : 0 ≤ old) (hi : old ≤ i) (hi1 : i ≤ 39582418599936) (hn : 0 ≤ n) (hn1 : n ≤ 1125899906842624)
    (hb : Ev (fun k => impl_adapted.f k (i - old) ((word.length : Int) + 1) ((word.length : Int) == basic)) b) :
    (n + i / ((word.length : Int) + 1) > 1114111 ∨ word.length ≥ 20 → Ev (fun k => contS k s [] word basic n i bias (p : Int) old) ([], false)) ∧
    (¬ (n + i / ((word.length : Int) + 1) > 1114111 ∨ word.length ≥ 20) → ∀ R, Ev (fun k => spec_ReadPuny.l2 k s [] (word.take (i % ((word.length : Int) + 1)).toNat ++ [n + i / ((word.length : Int) + 1)] ++ word.drop (i % ((word.length : Int) + 1)).toNat) basic (n + i / ((word.length : Int) + 1)) (i % ((word.length : Int) + 1) + 1) b (p : Int)) R →
        Ev (fun k => contS k s [] word basic n i bias (p : Int) old) R) := by
  have q0 : 0 ≤ i / ((word.length : Int) + 1) := Int.ediv_nonneg (by omega) (by omega)
  have q1 : i / ((word.length : Int) + 1) ≤ i := Int.ediv_le_self _ (by omega)
  have r0 : 0 ≤ i % ((word.length : Int) + 1) := Int.emod_nonneg _ (by omega)
  have r1 : i % ((word.length : Int) + 1) < (word.length : Int) + 1 := Int.emod_lt_of_pos _ (by omega)
  have e1 : Aside0 (wrap64 (i - old) = i - old) := ⟨w64 (by omega) (by omega)⟩
  have e2 : Aside0 (wrap64 ((word.length : Int) + 1) = (word.length : Int) + 1) := ⟨w64 (by omega) (by omega)⟩
  have e3 : Aside0 (Int.tmod i ((word.length : Int) + 1) = i % ((word.length : Int) + 1)) := ⟨Int.tmod_eq_emod_of_nonneg (by omega)⟩
  have e4 : Aside0 (Int.tdiv i ((word.length : Int) + 1) = i / ((word.length : Int) + 1)) := ⟨Int.tdiv_eq_ediv_of_nonneg (by omega)⟩
  have e5 : Aside0 (wrap64 (i / ((word.length : Int) + 1)) = i / ((word.length : Int) + 1)) := ⟨w64 (by omega) (by omega)⟩
  have e6 : Aside0 (wrap64 (n + i / ((word.length : Int) + 1)) = n + i / ((word.length : Int) + 1)) := ⟨w64 (by omega) (by omega)⟩
  have e7 : Aside0 (wrap64 (i % ((word.length : Int) + 1) + 1) = i % ((word.length : Int) + 1) + 1) := ⟨w64 (by omega) (by omega)⟩
  unfold contS
  simp only [e1.out, e2.out, e3.out, e4.out, e5.out, e6.out, e7.out, bias_f]
  clear e1 e2 e3 e4 e5 e6 e7
  constructor
  · intro c
    refine Ev.bind hb (ev_neg (by omega) ?_)
    by_cases c1 : n + i / ((word.length : Int) + 1) > 1114111
    · exact ev_pos c1 (Ev.now _)
    · exact ev_neg c1 (ev_pos (by omega) (Ev.now _))
  · intro c R h
    refine Ev.bind hb (ev_neg (by omega) (ev_neg (by omega) (ev_neg (by omega) (Ev.bind (Ev.now _) (ev_pos r0 (ev_pos (by omega) (Ev.bind (Ev.now _) (ev_pos (by simp; omega) (Ev.bind (Ev.now _) (Ev.bind (Ev.now _) (Ev.bind (Ev.now _) (ev_pos (by simp; omega) (Ev.bind (Ev.now _) (ev_pos (by simp; omega) ?_))))))))))))))
    simpa [List.append_assoc] using h
theorem end_I (s : ByteArray) (word : List Int) (rest : ByteArray) (basic n i bias : Int) (hl : word.length ≤ 200) (h : wordOk word = false) : Ev (fun k => impl_ReadPuny.j3 k s word rest basic n i bias false) ([], false) :=
  Ev.step (fun k => impl_ReadPuny.j3.eq_2 _ _ _ _ _ _ _ _ _) (ev_neg (by simp) (Ev.bind (isWord_ev word (by omega)) (ev_neg (by rw [h]; simp) (Ev.now _))))
/-- a word that is no word, however it goes on -/
def Doomed (w : List Int) : Prop := w.length > 20 ∨ ∃ x ∈ w, x > 1114111
theorem doomed_no {w : List Int} (h : Doomed w) : wordOk w = false := by
  cases c : wordOk w with
  | false => rfl
  | true =>
    obtain ⟨h1, _, h2⟩ := wordOk_parts c
    rcases h with h | ⟨x, hx, h⟩
    · omega
    · have := h2 x hx
      omega
theorem doomed_insert {w : List Int} (h : Doomed w) (m : Nat) (v : Int) : Doomed (w.take m ++ [v] ++ w.drop m) := by
  rcases h with h | ⟨x, hx, h⟩
  · left
    simp
    omega
  · right
    refine ⟨x, ?_, h⟩
    rw [← List.take_append_drop m w] at hx
    rcases List.mem_append.1 hx with g | g
    · exact List.mem_append_left _ (List.mem_append_left _ g)
    · exact List.mem_append_right _ g
theorem place_range (i : Int) (m : Nat) (h : 0 ≤ i) : 0 ≤ i % ((m : Int) + 1) ∧ i % ((m : Int) + 1) + 1 ≤ (m : Int) + 1 ∧ 0 ≤ i / ((m : Int) + 1) ∧ i / ((m : Int) + 1) ≤ i := by
  have := Int.emod_nonneg i (show (m : Int) + 1 ≠ 0 by omega)
  have := Int.emod_lt_of_pos i (show 0 < (m : Int) + 1 by omega)
  exact ⟨by omega, by omega, Int.ediv_nonneg h (by omega), Int.ediv_le_self _ h⟩
theorem doomed_I (s : ByteArray) (hs : s.size ≤ 60) (basic : Int) : ∀ (g p : Nat) (word : List Int) (n i bias : Int), s.size - p ≤ g → p ≤ s.size → Doomed word → word.length ≤ 60 → 0 ≤ n → n ≤ 1200000 + 39582418599936 * word.length → 0 ≤ i → i ≤ 100 →
    Ev (fun k => impl_ReadPuny.l1 k s word (s.extract p s.size) basic n i bias) ([], false) := by
  intro g
  induction g with
  | zero =>
    intro p word n i bias hg hp hd hl n0 n1 i0 i1
    exact Ev.step (fun k => impl_ReadPuny.l1.eq_2 _ _ _ _ _ _ _ _) (ev_pos ((ext_nil s p hp).2 (by omega)) (end_I s word _ basic n i bias (by omega) (doomed_no hd)))
  | succ g ih =>
    intro p word n i bias hg hp hd hl n0 n1 i0 i1
    refine Ev.step (fun k => impl_ReadPuny.l1.eq_2 _ _ _ _ _ _ _ _) ?_
    by_cases c : (s.extract p s.size).toList = ([] : List UInt8)
    · exact ev_pos c (end_I s word _ basic n i bias (by omega) (doomed_no hd))
    · refine ev_neg c ?_
      have hp2 : p < s.size := Nat.lt_of_le_of_ne hp (fun h => c ((ext_nil s p hp).2 h))
      by_cases c2 : (word.length : Int) ≤ 20
      · rw [decide_eq_true c2]
        refine Ev.step (fun k => impl_ReadPuny.j3.eq_2 _ _ _ _ _ _ _ _ _) (ev_pos rfl ?_)
        obtain ⟨a, b⟩ := dig_impl s word basic n bias i hs (s.size - p) p i 1 36 (by omega) i0 (by omega) (by omega) (by omega) (by omega) (by omega)
        cases e : dig s bias (s.size - p) p i 1 36 with
        | none => exact a e
        | some z =>
          obtain ⟨p', i'⟩ := z
          obtain ⟨d1, d2, d3, d4⟩ := dig_some s bias _ _ _ _ _ _ _ i0 (by omega) e
          obtain ⟨r0, r1, q0, q1⟩ := place_range i' word.length (by omega)
          obtain ⟨b', b0, b1, _, k⟩ := cont_I s word (s.extract p' s.size) basic n i' bias i (by omega) i0 d3 d4 n0 (by omega)
          refine b p' i' _ e (k _ (ih p' _ _ _ b' (by omega) (by omega) (doomed_insert hd _ _) (by simp; omega) (by omega) (by simp; omega) (by omega) (by omega)))
      · rw [decide_eq_false c2]
        exact end_I s word _ basic n i bias (by omega) (doomed_no hd)
theorem end_both (s : ByteArray) (word : List Int) (rest : ByteArray) (basic n i bias : Int) (hl : word.length ≤ 200) : ∃ R : List Int × Bool, R.1.length ≤ 200 ∧ Ev (fun k => impl_ReadPuny.j3 k s word rest basic n i bias false) R ∧
    Ev (fun k => (spec_Puny.f k word).bind fun bt204 => (if bt204.2 = true then (if bt204.1.toList = s.toList then (some (word, true)) else (some (([] : List Int), false))) else (some (([] : List Int), false)))) R := by
  cases c : wordOk word with
  | false => exact ⟨([], false), by simp, end_I s word rest basic n i bias hl c, Ev.bind (Ev.bind (l8WordOk_ev word (by omega)) (ev_neg (by rw [c]; simp) (Ev.now _))) (ev_neg (by simp) (Ev.now _))⟩
  | true =>
    obtain ⟨h1, _, h2⟩ := wordOk_parts c
    obtain ⟨F, f1, f2⟩ := puny_both word h1 h2
    refine ⟨if (strOfNums F).toList = s.toList then (word, true) else ([], false), ?_, ?_, ?_⟩
    · split
      · exact hl
      · simp
    · exact Ev.step (fun k => impl_ReadPuny.j3.eq_2 _ _ _ _ _ _ _ _ _) (ev_neg (by simp) (Ev.bind (isWord_ev word (by omega)) (ev_pos c (Ev.bind f1 (ev_ite (fun _ => Ev.now _) (fun _ => Ev.now _))))))
    · exact Ev.bind (Ev.bind (l8WordOk_ev word (by omega)) (ev_pos c f2)) (ev_pos rfl (ev_ite (fun _ => Ev.now _) (fun _ => Ev.now _)))
/-- both programs from the same state on -/
theorem joint (s : ByteArray) (hs : s.size ≤ 60) (basic : Int) : ∀ (g p : Nat) (word : List Int) (n i bias : Int), s.size - p ≤ g → p ≤ s.size → word.length ≤ 60 → 0 ≤ n → n ≤ 1114111 → 0 ≤ i → i ≤ 100 →
    ∃ R : List Int × Bool, R.1.length ≤ 200 ∧ Ev (fun k => impl_ReadPuny.l1 k s word (s.extract p s.size) basic n i bias) R ∧ Ev (fun k => spec_ReadPuny.l2 k s [] word basic n i bias (p : Int)) R := by
  have last : ∀ (p : Nat) (word : List Int) (n i bias : Int), p = s.size → word.length ≤ 60 → ∃ R : List Int × Bool, R.1.length ≤ 200 ∧ Ev (fun k => impl_ReadPuny.l1 k s word (s.extract p s.size) basic n i bias) R ∧ Ev (fun k => spec_ReadPuny.l2 k s [] word basic n i bias (p : Int)) R := by
    intro p word n i bias hp hl
    obtain ⟨R, h1, h2, h3⟩ := end_both s word (s.extract p s.size) basic n i bias (by omega)
    exact ⟨R, h1, Ev.step (fun k => impl_ReadPuny.l1.eq_2 _ _ _ _ _ _ _ _) (ev_pos ((ext_nil s p (by omega)).2 hp) h2), Ev.step (fun k => spec_ReadPuny.l2.eq_2 _ _ _ _ _ _ _ _ _) (ev_neg (by omega) h3)⟩
  intro g
  induction g with
  | zero =>
    intro p word n i bias hg hp hl n0 n1 i0 i1
    exact last p word n i bias (by omega) hl
  | succ g ih =>
    intro p word n i bias hg hp hl n0 n1 i0 i1
    by_cases hp2 : p = s.size
    · exact last p word n i bias hp2 hl
    have hnil : ¬ (s.extract p s.size).toList = ([] : List UInt8) := fun h => hp2 ((ext_nil s p hp).1 h)
    obtain ⟨sa, sb⟩ := dig_spec s word basic n bias i hs (s.size - p) p i 1 36 (by omega) i0 (by omega) (by omega) (by omega) (by omega) (by omega)
    have S : ∀ R, Ev (fun k => spec_ReadPuny.l3 k s [] word basic n i bias (p : Int) i 1 36) R → Ev (fun k => spec_ReadPuny.l2 k s [] word basic n i bias (p : Int)) R := fun R h =>
      Ev.step (fun k => spec_ReadPuny.l2.eq_2 _ _ _ _ _ _ _ _ _) (ev_pos (by omega) h)
    by_cases c2 : (word.length : Int) ≤ 20
    · obtain ⟨a, b⟩ := dig_impl s word basic n bias i hs (s.size - p) p i 1 36 (by omega) i0 (by omega) (by omega) (by omega) (by omega) (by omega)
      have I : ∀ R, Ev (fun k => impl_ReadPuny.l2 k s word (s.extract p s.size) basic n i bias i 1 36) R → Ev (fun k => impl_ReadPuny.l1 k s word (s.extract p s.size) basic n i bias) R := fun R h => by
        refine Ev.step (fun k => impl_ReadPuny.l1.eq_2 _ _ _ _ _ _ _ _) (ev_neg hnil ?_)
        rw [decide_eq_true c2]
        exact Ev.step (fun k => impl_ReadPuny.j3.eq_2 _ _ _ _ _ _ _ _ _) (ev_pos rfl h)
      cases e : dig s bias (s.size - p) p i 1 36 with
      | none => exact ⟨([], false), by simp, I _ (a e), S _ (sa e)⟩
      | some z =>
        obtain ⟨p', i'⟩ := z
        obtain ⟨d1, d2, d3, d4⟩ := dig_some s bias _ _ _ _ _ _ _ i0 (by omega) e
        obtain ⟨r0, r1, q0, q1⟩ := place_range i' word.length (by omega)
        obtain ⟨b', b0, b1, hb, k⟩ := cont_I s word (s.extract p' s.size) basic n i' bias i (by omega) i0 d3 d4 n0 (by omega)
        obtain ⟨k1, k2⟩ := cont_S s word p' basic n i' bias i b' (by omega) i0 d3 d4 n0 (by omega) hb
        by_cases c3 : n + i' / ((word.length : Int) + 1) > 1114111 ∨ word.length ≥ 20
        · refine ⟨([], false), by simp, I _ (b p' i' _ e (k _ (doomed_I s hs basic (s.size - p') p' _ _ _ b' (by omega) (by omega) ?_ (by simp; omega) (by omega) (by simp; omega) (by omega) (by omega)))), S _ (sb p' i' _ e (k1 c3))⟩
          rcases c3 with c3 | c3
          · exact .inr ⟨_, List.mem_append_left _ (List.mem_append_right _ (List.mem_singleton.2 rfl)), c3⟩
          · left
            simp
            omega
        · obtain ⟨R, g1, g2, g3⟩ := ih p' (word.take (i' % ((word.length : Int) + 1)).toNat ++ [n + i' / ((word.length : Int) + 1)] ++ word.drop (i' % ((word.length : Int) + 1)).toNat) (n + i' / ((word.length : Int) + 1)) (i' % ((word.length : Int) + 1) + 1) b' (by omega) (by omega) (by simp; omega) (by omega) (by omega) (by omega) (by omega)
          exact ⟨R, g1, I _ (b p' i' _ e (k _ g2)), S _ (sb p' i' _ e (k2 c3 R g3))⟩
    · have hd : Doomed word := .inl (by omega)
      refine ⟨([], false), by simp, ?_, S _ ?_⟩
      · refine Ev.step (fun k => impl_ReadPuny.l1.eq_2 _ _ _ _ _ _ _ _) (ev_neg hnil ?_)
        rw [decide_eq_false c2]
        exact end_I s word _ basic n i bias (by omega) (doomed_no hd)
      · cases e : dig s bias (s.size - p) p i 1 36 with
        | none => exact sa e
        | some z =>
          obtain ⟨p', i'⟩ := z
          obtain ⟨d1, d2, d3, d4⟩ := dig_some s bias _ _ _ _ _ _ _ i0 (by omega) e
          obtain ⟨b', b0, b1, hb, k⟩ := cont_I s word (s.extract p' s.size) basic n i' bias i (by omega) i0 d3 d4 n0 (by omega)
          exact sb p' i' _ e ((cont_S s word p' basic n i' bias i b' (by omega) i0 d3 d4 n0 (by omega) hb).1 (.inr (by omega)))
/-! ### ReadPuny: how both begin -/
structure IsLast (s : ByteArray) (n : Nat) (r : Int) : Prop where
  lo : -1 ≤ r
  hi : r < (n : Int)
  at' : 0 ≤ r → bt s r = 45
  no : ∀ j : Nat, r < (j : Int) → j < n → bt s (j : Int) ≠ 45
theorem last_uniq {s : ByteArray} {n : Nat} {r r' : Int} (h : IsLast s n r) (h' : IsLast s n r') : r = r' := by
  have a := h.lo
  have b := h.hi
  have a' := h'.lo
  have b' := h'.hi
  rcases Int.lt_trichotomy r r' with c | c | c
  · exfalso
    have := h.no r'.toNat (by omega) (by omega)
    rw [Int.toNat_of_nonneg (by omega)] at this
    exact this (h'.at' (by omega))
  · exact c
  · exfalso
    have := h'.no r.toNat (by omega) (by omega)
    rw [Int.toNat_of_nonneg (by omega)] at this
    exact this (h.at' (by omega))
theorem last_impl (s : ByteArray) (hs : s.size ≤ 60) : ∃ r, IsLast s s.size r ∧ Ev (fun k => strings_LastIndexByte.f k s 45) r := by
  have key : ∀ d : Nat, d ≤ s.size → (∀ j : Nat, d ≤ j → j < s.size → bt s (j : Int) ≠ 45) → ∃ r, IsLast s s.size r ∧ Ev (fun k => bytealg_LastIndexByteString.l0 k s 45 ((d : Int) - 1)) r := by
    intro d
    induction d with
    | zero =>
      intro _ h
      exact ⟨-1, ⟨by omega, by omega, by omega, fun j _ hj => h j (by omega) hj⟩, Ev.step (fun k => bytealg_LastIndexByteString.l0.eq_2 _ _ _ _) (ev_neg (by omega) (Ev.now _))⟩
    | succ d ih =>
      intro hd h
      rw [show ((d + 1 : Nat) : Int) - 1 = (d : Int) by omega]
      by_cases c : bt s (d : Int) = 45
      · exact ⟨d, ⟨by omega, by omega, fun _ => c, fun j hj hj2 => h j (by omega) hj2⟩, Ev.step (fun k => bytealg_LastIndexByteString.l0.eq_2 _ _ _ _) (ev_pos (by omega) (ev_pos (by omega) (ev_pos (by omega) (ev_pos c (Ev.now _)))))⟩
      · obtain ⟨r, h1, h2⟩ := ih (by omega) (fun j hj hj2 => by
          by_cases e : j = d
          · rw [e]; exact c
          · exact h j (by omega) hj2)
        refine ⟨r, h1, Ev.step (fun k => bytealg_LastIndexByteString.l0.eq_2 _ _ _ _) (ev_pos (by omega) (ev_pos (by omega) (ev_pos (by omega) (ev_neg c ?_))))⟩
        rw [w64 (by omega) (by omega)]
        exact h2
  obtain ⟨r, h1, h2⟩ := key s.size (Nat.le_refl _) (fun j h h' => by omega)
  refine ⟨r, h1, Ev.bind ?_ (Ev.now _)⟩
  show Ev (fun k => bytealg_LastIndexByteString.l0 k s 45 (wrap64 ((s.size : Int) - 1))) r
  rw [w64 (by omega) (by omega)]
  exact h2
theorem last_spec (s : ByteArray) (hs : s.size ≤ 60) (r : Int) (hr : IsLast s s.size r) (R : List Int × Bool) (h : Ev (fun k => spec_ReadPuny.l1 k s [] [] r 0) R) : ∀ (d i : Nat) (x : Int), i + d = s.size → IsLast s i x → Ev (fun k => spec_ReadPuny.l0 k s [] [] x (i : Int)) R := by
  intro d
  induction d with
  | zero =>
    intro i x hi hx
    obtain rfl : i = s.size := by omega
    obtain rfl := last_uniq hr hx
    exact Ev.step (fun k => spec_ReadPuny.l0.eq_2 _ _ _ _ _ _) (ev_neg (by omega) h)
  | succ d ih =>
    intro i x hi hx
    have a := hx.lo
    have b := hx.hi
    refine Ev.step (fun k => spec_ReadPuny.l0.eq_2 _ _ _ _ _ _) (ev_pos (by omega) (ev_pos (by omega) ?_))
    rw [w64 (x := (i : Int) + 1) (by omega) (by omega)]
    by_cases c : bt s (i : Int) = 45
    · exact ev_pos c (ih (i + 1) i (by omega) ⟨by omega, by omega, fun _ => c, fun j hj hj2 => by omega⟩)
    · refine ev_neg c (ih (i + 1) x (by omega) ⟨a, by omega, hx.at', fun j hj hj2 => ?_⟩)
      by_cases e : j = i
      · rw [e]; exact c
      · exact hx.no j hj (by omega)
def bts (s : ByteArray) (n : Nat) : List Int := (List.range n).map (fun j : Nat => bt s (j : Int))
theorem bts_succ (s : ByteArray) (n : Nat) : bts s (n + 1) = bts s n ++ [bt s (n : Int)] := by simp [bts, List.range_succ]
theorem bts_length (s : ByteArray) (n : Nat) : (bts s n).length = n := by simp [bts]
theorem plain_spec (s : ByteArray) (hs : s.size ≤ 60) (n : Nat) (hn : n ≤ s.size) (r : Int) (hr : n = r.toNat ∧ -1 ≤ r ∧ r < (s.size : Int)) (R : List Int × Bool) (h : Ev (fun k => spec_ReadPuny.l2 k s [] (bts s n) (n : Int) 128 0 72 (r + 1)) R) : ∀ (d i : Nat), i + d = n → Ev (fun k => spec_ReadPuny.l1 k s [] (bts s i) r (i : Int)) R := by
  intro d
  induction d with
  | zero =>
    intro i hi
    obtain rfl : i = n := by omega
    refine Ev.step (fun k => spec_ReadPuny.l1.eq_2 _ _ _ _ _ _) (ev_neg (by omega) ?_)
    rw [w64 (x := r + 1) (by omega) (by omega), bts_length]
    exact h
  | succ d ih =>
    intro i hi
    have hb := bt_range s (i : Int)
    refine Ev.step (fun k => spec_ReadPuny.l1.eq_2 _ _ _ _ _ _) (ev_pos (by omega) (ev_pos (by omega) (ev_pos (by omega) (ev_pos (by rw [bts_length]; omega) ?_))))
    rw [w64 (x := bt s (i : Int)) (by omega) (by omega), w64 (by omega) (by omega), ← bts_succ]
    exact ih (i + 1) (by omega)
theorem plain_impl (s : ByteArray) (hs : s.size ≤ 60) (n : Nat) (hn : n < s.size) (rest : ByteArray) (R : List Int × Bool) (h : Ev (fun k => impl_ReadPuny.l1 k s (bts s n) rest (n : Int) 128 0 72) R) : ∀ (d i : Nat), i + d = n → Ev (fun k => impl_ReadPuny.l0 k s (bts s i) rest (n : Int) (i : Int)) R := by
  intro d
  induction d with
  | zero =>
    intro i hi
    obtain rfl : i = n := by omega
    refine Ev.step (fun k => impl_ReadPuny.l0.eq_2 _ _ _ _ _ _) (ev_neg (by omega) (Ev.step (fun k => impl_ReadPuny.j1.eq_2 _ _ _ _) ?_))
    rw [bts_length]
    exact h
  | succ d ih =>
    intro i hi
    have hb := bt_range s (i : Int)
    refine Ev.step (fun k => impl_ReadPuny.l0.eq_2 _ _ _ _ _ _) (ev_pos (by omega) (ev_pos (by omega) (ev_pos (by omega) (ev_pos (by rw [bts_length]; omega) ?_))))
    rw [w64 (x := bt s (i : Int)) (by omega) (by omega), w64 (by omega) (by omega), ← bts_succ]
    exact ih (i + 1) (by omega)
theorem ext_all (s : ByteArray) : s.extract 0 s.size = s := by
  apply ByteArray.ext
  simp
/-- from the state behind the plain ones on -/
theorem impl_start (s : ByteArray) (hs : s.size ≤ 60) (r : Int) (hr : IsLast s s.size r) (he : Ev (fun k => strings_LastIndexByte.f k s 45) r) (R : List Int × Bool)
    (h : Ev (fun k => impl_ReadPuny.l1 k s (bts s r.toNat) (s.extract (r + 1).toNat s.size) (r.toNat : Int) 128 0 72) R) : Ev (fun k => impl_ReadPuny.f k s) R := by
  have a := hr.lo
  have b := hr.hi
  refine ev_neg (by omega) (Ev.bind (Ev.now _) (Ev.bind he ?_))
  by_cases c : r ≥ 0
  · refine ev_pos c ?_
    rw [w64 (x := r + 1) (by omega) (by omega)]
    refine ev_pos (by omega) (ev_pos (by omega) ?_)
    have := plain_impl s hs r.toNat (by omega) _ R h r.toNat 0 (by omega)
    rw [Int.toNat_of_nonneg c] at this
    exact this
  · obtain rfl : r = -1 := by omega
    refine ev_neg c (Ev.step (fun k => impl_ReadPuny.j1.eq_2 _ _ _ _) ?_)
    rw [show ((-1 : Int) + 1).toNat = 0 from rfl, ext_all] at h
    exact h
theorem readPuny_both (s : ByteArray) : ∃ R : List Int × Bool, R.1.length ≤ 200 ∧ Ev (fun k => impl_ReadPuny.f k s) R ∧ Ev (fun k => spec_ReadPuny.f k s) R := by
  by_cases c : (s.size : Int) > 60
  · exact ⟨([], false), by simp, ev_pos c (Ev.now _), Ev.bind (Ev.now _) (ev_pos c (Ev.now _))⟩
  have hs : s.size ≤ 60 := by omega
  obtain ⟨r, hr, he⟩ := last_impl s hs
  have a := hr.lo
  have b := hr.hi
  obtain ⟨R, h1, h2, h3⟩ := joint s hs (r.toNat : Int) s.size (r + 1).toNat (bts s r.toNat) 128 0 72 (by omega) (by omega) (by rw [bts_length]; omega) (by omega) (by omega) (by omega) (by omega)
  refine ⟨R, h1, impl_start s hs r hr he R h2, Ev.bind (Ev.now _) (ev_neg c ?_)⟩
  rw [show (((r + 1).toNat : Nat) : Int) = r + 1 by omega] at h3
  exact last_spec s hs r hr R (plain_spec s hs r.toNat (by omega) r ⟨rfl, a, b⟩ R h3 r.toNat 0 (by omega)) s.size 0 (-1) (by omega) ⟨by omega, by omega, by omega, fun j _ hj => by omega⟩
def mI : Int → Nat → List Int
  | _, 0 => []
  | m, n + 1 => m :: mI (m + 1) n
theorem mI_length : ∀ (n : Nat) (m : Int), (mI m n).length = n
  | 0, _ => rfl
  | n + 1, m => by simp [mI, mI_length n]
theorem markI_ev {L : Nat → List Int → Int → Int → Option (Int × List Int)}
    (hL : ∀ k x0 x1 x5, L (k + 1) x0 x1 x5 = if x5 < (x0.length : Int) then (if 0 ≤ x5 then (L k (x0.set (x5 : Int).toNat x1) (wrap64 (x1 + 1)) (wrap64 (x5 + 1))) else none) else some (x1, x0)) :
    ∀ (rest pre : List Int) (m : Int), pre.length + rest.length ≤ 1099511627776 → 0 ≤ m → m + rest.length ≤ 1099511627776 → Ev (fun k => L k (pre ++ rest) m (pre.length : Int)) (m + rest.length, pre ++ mI m rest.length)
  | [], pre, m, _, _, _ => by
    refine Ev.step (fun k => hL _ _ _ _) (ev_neg (by simp) ?_)
    simpa [mI] using Ev.now _
  | a :: t, pre, m, h1, h2, h3 => by
    simp only [List.length_cons] at h1 h3
    have ih := markI_ev hL t (pre ++ [m]) (m + 1) (by simp; omega) (by omega) (by omega)
    refine Ev.step (fun k => hL _ _ _ _) (ev_pos (by simp; omega) (ev_pos (by omega) ?_))
    rw [w64 (x := m + 1) (by omega) (by omega), w64 (x := (pre.length : Int) + 1) (by omega) (by omega)]
    have e : (pre ++ a :: t).set (pre.length : Int).toNat m = pre ++ [m] ++ t := by
      rw [Int.toNat_natCast, List.set_append_right _ _ (Nat.le_refl _)]
      simp
    rw [e]
    have e2 : ((pre ++ [m]).length : Int) = (pre.length : Int) + 1 := by simp
    rw [e2] at ih
    have e3 : (m + ((a :: t).length : Int), pre ++ mI m (a :: t).length) = (m + 1 + (t.length : Int), pre ++ [m] ++ mI (m + 1) t.length) := by
      simp [mI]
      omega
    rw [e3]
    exact ih
theorem heldI_ev {H : Nat → List Int → Int → Int → Option Int}
    (hH : ∀ k x0 x1 x5, H (k + 1) x0 x1 x5 = if x5 < (x0.length : Int) then (if 0 ≤ x5 then (if (rd x0 x5) = x1 then (H k x0 (wrap64 (x1 + 1)) (wrap64 (x5 + 1))) else (some (-1))) else none) else some x1) :
    ∀ (n : Nat) (pre : List Int) (m : Int), pre.length + n ≤ 1099511627776 → 0 ≤ m → m + n ≤ 1099511627776 → Ev (fun k => H k (pre ++ mI m n) m (pre.length : Int)) (m + n)
  | 0, pre, m, _, _, _ => by
    refine Ev.step (fun k => hH _ _ _ _) (ev_neg (by simp [mI]) ?_)
    simpa using Ev.now _
  | n + 1, pre, m, h1, h2, h3 => by
    have ih := heldI_ev hH n (pre ++ [m]) (m + 1) (by simp; omega) (by omega) (by omega)
    refine Ev.step (fun k => hH _ _ _ _) (ev_pos (by simp [mI]; omega) (ev_pos (by omega) (ev_pos (by simp [rd, mI]) ?_)))
    rw [w64 (x := m + 1) (by omega) (by omega), w64 (x := (pre.length : Int) + 1) (by omega) (by omega)]
    have e2 : ((pre ++ [m]).length : Int) = (pre.length : Int) + 1 := by simp
    rw [e2, List.append_assoc, show [m] ++ mI (m + 1) n = mI m (n + 1) from rfl] at ih
    rw [show m + ((n + 1 : Nat) : Int) = m + 1 + (n : Int) by omega]
    exact ih
theorem eqIntS_ev (l : List Int) (hl : l.length ≤ 1048577) : Ev (fun k => laws_eqIntS.f k l l) true :=
  ev_pos rfl (by simpa using eq_ev (L := laws_eqIntS.l0) (fun _ _ _ _ => rfl) l l (by omega) rfl)
theorem FnExactReadPuny : laws_FnExactReadPuny.Pure := by
  intro s _
  by_cases c0 : (s.size : Int) > 1048576
  · exact ev_k (ev_pos c0 (Ev.now _))
  obtain ⟨R, hR, hi, hs⟩ := readPuny_both s
  obtain ⟨r, b⟩ := R
  replace hR : r.length ≤ 200 := hR
  have hn : ∀ n : Nat, ¬ (1 + (n : Int)) < 0 := fun n => by omega
  have he := eqIntS_ev r (by omega)
  have hmi := markI_ev (L := laws_markIntS.l0) (fun _ _ _ _ => rfl) r [] 1 (by simp; omega) (by omega) (by omega)
  have hhi := heldI_ev (H := laws_heldIntS.l0) (fun _ _ _ _ => rfl) r.length [] 1 (by simp; omega) (by omega) (by omega)
  refine ev_k (ev_neg c0 (Ev.bind hs (Ev.bind hi (Ev.bind he (ev_pos rfl ?_)))))
  refine Ev.step (fun k => laws_FnExactReadPuny.j0.eq_2 _ _ _ _ _ _) (ev_neg (by simp) (Ev.bind hmi (Ev.bind hhi (ev_neg (hn _) (ev_pos rfl (Ev.bind hi (Ev.bind he (ev_pos rfl ?_))))))))
  exact Ev.step (fun k => laws_FnExactReadPuny.j1.eq_2 _ _ _ _) (ev_neg (by simp) (Ev.bind hhi (ev_neg (hn _) (ev_pos rfl (Ev.now _)))))

end Go.Proofs.Ythhomopijhopfaa.Pure
