/- The program's Puny returns what the reference's returns, for all arguments that the law lets in. -/
import Derived.Test.YthhomopijhopfaaGFnExactPunyx5
import Derived.Test.YthhomopijhopfaaBase
namespace Go.Proofs.Ythhomopijhopfaa.Pure
open Go.RowKit Go.Proofs.Ythhomopijhopfaa.GFnExactPuny Go.Proofs.YthhomopijhopfaaW.PrintWords Go.Proofs.YthhomopijhopfaaW.PrintLast Go.Proofs.Ythhomopijhopfaa.Base
set_option linter.unusedVariables false
set_option linter.unusedSimpArgs false

theorem l1In_eq (x a b : Int) : spec_l1In.f x a b = some (decide (a ≤ x ∧ x ≤ b)) := by
  unfold spec_l1In.f
  by_cases h : x ≥ a
  · rw [if_pos h]; simp [show a ≤ x from h]
  · rw [if_neg h]; simp [show ¬ a ≤ x from h]
theorem within_eq (x a b : Int) : impl_within.f x a b = some (decide (a ≤ x ∧ x ≤ b)) := l1In_eq x a b
theorem toIntS_ev (l : List Int) (hl : l.length ≤ 1048576) : Ev (fun k => laws_toIntS.f k l) l := by
  refine ev_pos (by omega) (ev_pos (by omega) ?_)
  rw [show ((l.length : Int) : Int).toNat = l.length by omega]
  exact copy_ev (L := laws_toIntS.l0) (fun _ _ _ _ => rfl) l (by omega)
theorem eqIntS_ev (l : List Int) (hl : l.length ≤ 1048576) : Ev (fun k => laws_eqIntS.f k l l) true :=
  ev_pos rfl (by simpa using eq_ev (L := laws_eqIntS.l0) (fun _ _ _ _ => rfl) l l (by omega) rfl)
/-! ### Puny: both programs write the same digits -/
theorem str_append (x y : List Int) : strOfNums (x ++ y) = strOfNums x ++ strOfNums y := by
  apply ByteArray.ext
  rw [ByteArray.data_append]
  simp [strOfNums]
theorem thr_range (K b : Int) : 1 ≤ mn 26 (mx 1 (wrap64 (K - b))) ∧ mn 26 (mx 1 (wrap64 (K - b))) ≤ 26 := by unfold mn mx; (repeat' split) <;> omega
def thr (K b : Int) : Int := mn 26 (mx 1 (wrap64 (K - b)))
theorem threshold_eq (K b : Int) : impl_threshold.f K b = some (thr K b) := rfl
theorem l8Threshold_eq (K b : Int) : spec_l8Threshold.f K b = some (thr K b) := by
  unfold spec_l8Threshold.f spec_l1Min.f spec_l1Max.f thr mn mx
  generalize wrap64 (K - b) = x
  by_cases h1 : 26 < x
  · simp [h1, show (1 : Int) < x by omega, show ¬ x < 26 by omega]
  · by_cases h2 : 1 < x
    · by_cases h3 : x < 26
      · simp [h1, h2, h3, show ¬ x < 1 by omega]
      · obtain rfl : x = 26 := by omega
        simp
    · by_cases h3 : x < 1
      · simp [h1, h2, h3]
      · obtain rfl : x = 1 := by omega
        simp
def dgt (d : Int) : Int := if d < 26 then 97 + d else 22 + d
theorem digit_spec (d : Int) (h0 : 0 ≤ d) (h1 : d < 36) : spec_l8PunyDigit.f d = some (dgt d) := by
  unfold spec_l8PunyDigit.f dgt
  by_cases h : d < 26
  · rw [if_pos h, if_pos h]; congr 1; unfold wrap64; omega
  · rw [if_neg h, if_neg h]; congr 1; unfold wrap64; omega
theorem digit_impl (d : Int) (h0 : 0 ≤ d) (h1 : d < 36) : bt (⟨#[97, 98, 99, 100, 101, 102, 103, 104, 105, 106, 107, 108, 109, 110, 111, 112, 113, 114, 115, 116, 117, 118, 119, 120, 121, 122, 48, 49, 50, 51, 52, 53, 54, 55, 56, 57]⟩ : ByteArray) d = dgt d := by
  obtain ⟨n, rfl⟩ := Int.eq_ofNat_of_zero_le h0
  have hn : n < 36 := by omega
  have : ∀ n : Fin 36, bt (⟨#[97, 98, 99, 100, 101, 102, 103, 104, 105, 106, 107, 108, 109, 110, 111, 112, 113, 114, 115, 116, 117, 118, 119, 120, 121, 122, 48, 49, 50, 51, 52, 53, 54, 55, 56, 57]⟩ : ByteArray) (n : Nat) = dgt (n : Nat) := by decide +kernel
  exact this ⟨n, hn⟩
theorem bias_same : ∀ k, (∀ x y, impl_adapted.l0 k x y = spec_l8Bias.l0 k x y) := by
  intro k
  induction k with
  | zero => intro x y; rfl
  | succ k ih => intro x y; rw [impl_adapted.l0.eq_2, spec_l8Bias.l0.eq_2, ih]
theorem bias_f (k : Nat) (a b : Int) (c : Bool) : spec_l8Bias.f k a b c = impl_adapted.f k a b c := by
  unfold spec_l8Bias.f impl_adapted.f
  cases k with
  | zero => rfl
  | succ k =>
    rw [impl_adapted.j0.eq_2, impl_adapted.j0.eq_2, spec_l8Bias.j0.eq_2, spec_l8Bias.j0.eq_2]
    simp only [bias_same]
theorem adapt_loop : ∀ (n : Nat) (x y : Int), 0 ≤ x → x < 35 ^ n * 456 → 0 ≤ y → y + 36 * n ≤ 1000 → n ≤ 8 → ∃ r, 0 ≤ r ∧ r ≤ y + 36 * n + 36 ∧ Ev (fun k => impl_adapted.l0 k x y) r := by
  have stop : ∀ x y : Int, 0 ≤ x → x ≤ 455 → 0 ≤ y → y ≤ 1000 → ∃ r, 0 ≤ r ∧ r ≤ y + 36 ∧ Ev (fun k => impl_adapted.l0 k x y) r := by
    intro x y h0 h1 h2 h3
    have e1 : Aside0 (wrap64 (x + 38) = x + 38) := ⟨w64 (by omega) (by omega)⟩
    have e2 : Aside0 (wrap64 (36 * x) = 36 * x) := ⟨w64 (by omega) (by omega)⟩
    have hq : 0 ≤ (36 * x) / (x + 38) := Int.ediv_nonneg (by omega) (by omega)
    have hq2 : (36 * x) / (x + 38) < 36 := Int.ediv_lt_of_lt_mul (by omega) (by omega)
    refine ⟨y + (36 * x) / (x + 38), by omega, by omega, ?_⟩
    refine Ev.step (fun k => impl_adapted.l0.eq_2 _ _ _) (ev_neg (by omega) ?_)
    rw [e1.out, e2.out, Int.tdiv_eq_ediv_of_nonneg (by omega)]
    refine ev_neg (by omega) ?_
    rw [w64 (x := 36 * x / (x + 38)) (by omega) (by omega), w64 (by omega) (by omega)]
    exact Ev.now _
  intro n
  induction n with
  | zero =>
    intro x y h0 h1 h2 h3 _
    obtain ⟨r, a, b, c⟩ := stop x y h0 (by omega) h2 (by omega)
    exact ⟨r, a, by omega, c⟩
  | succ n ih =>
    intro x y h0 h1 h2 h3 h4
    by_cases c : x > 455
    · have hx : x / 35 < 35 ^ n * 456 := by
        have : x < 35 * (35 ^ n * 456) := by rw [← Int.mul_assoc, Int.mul_comm 35, ← Int.pow_succ]; exact h1
        omega
      have hb : x < 2 ^ 62 := by
        have : (35 : Int) ^ (n + 1) ≤ 35 ^ 8 := by
          have := Nat.pow_le_pow_right (n := 35) (by decide) h4
          rw [← Int.ofNat_le] at this
          rwa [Int.natCast_pow, Int.natCast_pow] at this
        omega
      obtain ⟨r, a, b, d⟩ := ih (x / 35) (y + 36) (by omega) hx (by omega) (by omega) (by omega)
      refine ⟨r, a, by omega, Ev.step (fun k => impl_adapted.l0.eq_2 _ _ _) (ev_pos c ?_)⟩
      rw [Int.tdiv_eq_ediv_of_nonneg (by omega), w64 (x := x / 35) (by omega) (by omega), w64 (by omega) (by omega)]
      exact d
    · obtain ⟨r, a, b, d⟩ := stop x y h0 (by omega) h2 (by omega)
      exact ⟨r, a, by omega, d⟩
theorem adapted_ev (d m : Int) (f : Bool) (h0 : 0 ≤ d) (h1 : d ≤ 2199023255552) (h2 : 1 ≤ m) (h3 : m ≤ 100) : ∃ r, 0 ≤ r ∧ r ≤ 360 ∧ Ev (fun k => impl_adapted.f k d m f) r := by
  have hq : ∀ e : Int, 0 ≤ e → e ≤ 1099511627776 → ∃ r, 0 ≤ r ∧ r ≤ 360 ∧ Ev (fun k => impl_adapted.j0 k e m) r := by
    intro e he0 he1
    have q0 : 0 ≤ e / m := Int.ediv_nonneg he0 (by omega)
    have q1 : e / m ≤ e := Int.ediv_le_self _ he0
    obtain ⟨r, a, b, c⟩ := adapt_loop 8 (e + e / m) 0 (by omega) (by omega) (by omega) (by omega) (by omega)
    refine ⟨r, a, by omega, Ev.step (fun k => impl_adapted.j0.eq_2 _ _ _) (ev_neg (by omega) ?_)⟩
    rw [Int.tdiv_eq_ediv_of_nonneg he0, w64 (x := e / m) (by omega) (by omega), w64 (by omega) (by omega)]
    exact c
  unfold impl_adapted.f
  cases f with
  | true =>
    obtain ⟨r, a, b, c⟩ := hq (d / 700) (by omega) (by omega)
    refine ⟨r, a, b, ev_pos rfl ?_⟩
    rw [Int.tdiv_eq_ediv_of_nonneg h0, w64 (by omega) (by omega)]; exact c
  | false =>
    obtain ⟨r, a, b, c⟩ := hq (d / 2) (by omega) (by omega)
    refine ⟨r, a, b, ev_neg (by simp) ?_⟩
    rw [Int.tdiv_eq_ediv_of_nonneg h0, w64 (by omega) (by omega)]; exact c
/-- the digits of a number: what both programs write -/
theorem told_both (b : Int) : ∀ (n : Nat) (q K : Int), 0 ≤ q → q < 2 ^ n → n ≤ 40 → 36 ≤ K → K + 36 * n ≤ 2000 → ∃ D : List Int, D.length ≤ n + 1 ∧
    (∀ x5 : List Int, x5.length + n ≤ 10000 → Ev (fun k => impl_told.l0 k b x5 q K) (strOfNums (x5 ++ D))) ∧
    (∀ (x0 x4 : List Int) (x6 x7 x8 x10 x13 : Int) (R : ByteArray × Bool), x4.length + n ≤ 10000 →
      Ev (fun k => (spec_l8Bias.f k x8 (wrap64 (x10 + 1)) (x10 == x6)).bind fun t => spec_Puny.l3 k x0 (x4 ++ D) x6 x7 0 t (wrap64 (x10 + 1)) (wrap64 (x13 + 1))) R →
      Ev (fun k => spec_Puny.l4 k x0 x4 x6 x7 x8 b x10 x13 q K) R) := by
  have stop : ∀ (n : Nat) (q K : Int), 0 ≤ q → q < thr K b → ∃ D : List Int, D.length ≤ n + 1 ∧
    (∀ x5 : List Int, x5.length + n ≤ 10000 → Ev (fun k => impl_told.l0 k b x5 q K) (strOfNums (x5 ++ D))) ∧
    (∀ (x0 x4 : List Int) (x6 x7 x8 x10 x13 : Int) (R : ByteArray × Bool), x4.length + n ≤ 10000 →
      Ev (fun k => (spec_l8Bias.f k x8 (wrap64 (x10 + 1)) (x10 == x6)).bind fun t => spec_Puny.l3 k x0 (x4 ++ D) x6 x7 0 t (wrap64 (x10 + 1)) (wrap64 (x13 + 1))) R →
      Ev (fun k => spec_Puny.l4 k x0 x4 x6 x7 x8 b x10 x13 q K) R) := by
    intro n q K h0 h1
    have ht := thr_range K b
    unfold thr at h1
    refine ⟨[dgt q], by simp, ?_, ?_⟩
    · intro x5 hx
      refine Ev.step (fun k => impl_told.l0.eq_2 _ _ _ _ _) (ev_bindc (threshold_eq K b) (ev_pos h1 (ev_pos h0 (ev_pos (by omega) (ev_pos (by omega) ?_)))))
      rw [digit_impl q h0 (by omega)]; exact Ev.now _
    · intro x0 x4 x6 x7 x8 x10 x13 R hx h
      exact Ev.step (fun k => spec_Puny.l4.eq_2 _ _ _ _ _ _ _ _ _ _ _) (ev_bindc (l8Threshold_eq K b) (ev_pos h1 (ev_bindc (digit_spec q h0 (by omega)) (ev_pos (by omega) h))))
  intro n
  induction n with
  | zero =>
    intro q K h0 h1 _ h2 h3
    refine stop 0 q K h0 ?_
    have ht := thr_range K b
    unfold thr; omega
  | succ n ih =>
    intro q K h0 h1 hn h2 h3
    by_cases c : q < thr K b
    · obtain ⟨D, a, d, e⟩ := stop (n + 1) q K h0 c
      exact ⟨D, a, d, e⟩
    · have ht := thr_range K b
      have hT : thr K b = mn 26 (mx 1 (wrap64 (K - b))) := rfl
      rw [← hT] at ht
      have hb : q < 2 ^ 62 := by have := pow2_le (show n + 1 ≤ 62 by omega); omega
      have m0 : 0 ≤ (q - thr K b) % (36 - thr K b) := Int.emod_nonneg _ (by omega)
      have m1 : (q - thr K b) % (36 - thr K b) < 36 - thr K b := Int.emod_lt_of_pos _ (by omega)
      have d0 : 0 ≤ (q - thr K b) / (36 - thr K b) := Int.ediv_nonneg (by omega) (by omega)
      have d1 : (q - thr K b) / (36 - thr K b) < 2 ^ n := by
        refine Int.ediv_lt_of_lt_mul (by omega) ?_
        have h2n : (2 : Int) ^ (n + 1) = 2 ^ n * 2 := Int.pow_succ ..
        have hp : (0 : Int) < 2 ^ n := Int.pow_pos (by decide)
        have : (2 : Int) ^ n * 2 ≤ 2 ^ n * (36 - thr K b) := Int.mul_le_mul_of_nonneg_left (by omega) (by omega)
        omega
      have e1 : Aside0 (wrap64 (q - thr K b) = q - thr K b) := ⟨w64 (by omega) (by omega)⟩
      have e2 : Aside0 (wrap64 (36 - thr K b) = 36 - thr K b) := ⟨w64 (by omega) (by omega)⟩
      have e3 : Int.tmod (q - thr K b) (36 - thr K b) = (q - thr K b) % (36 - thr K b) := Int.tmod_eq_emod_of_nonneg (by omega)
      have e4 : Int.tdiv (q - thr K b) (36 - thr K b) = (q - thr K b) / (36 - thr K b) := Int.tdiv_eq_ediv_of_nonneg (by omega)
      have e5 : Aside0 (wrap64 (thr K b + (q - thr K b) % (36 - thr K b)) = thr K b + (q - thr K b) % (36 - thr K b)) := ⟨w64 (by omega) (by omega)⟩
      have e6 : Aside0 (wrap64 ((q - thr K b) / (36 - thr K b)) = (q - thr K b) / (36 - thr K b)) := Aside0.mk <| by
        have := pow2_le (show n ≤ 62 by omega)
        exact w64 (by omega) (by omega)
      have e7 : Aside0 (wrap64 (K + 36) = K + 36) := ⟨w64 (by omega) (by omega)⟩
      obtain ⟨D, a, d, e⟩ := ih ((q - thr K b) / (36 - thr K b)) (K + 36) d0 d1 (by omega) (by omega) (by omega)
      refine ⟨dgt (thr K b + (q - thr K b) % (36 - thr K b)) :: D, by simp; omega, ?_, ?_⟩
      · intro x5 hx
        refine Ev.step (fun k => impl_told.l0.eq_2 _ _ _ _ _) (ev_bindc (threshold_eq K b) (ev_neg c ?_))
        rw [e1.out, e2.out, e3, e4, e5.out, e6.out, e7.out]
        refine ev_neg (by omega) (ev_pos (by omega) (ev_pos (by omega) (ev_pos (by omega) ?_)))
        rw [digit_impl _ (by omega) (by omega)]
        have := d (x5 ++ [dgt (thr K b + (q - thr K b) % (36 - thr K b))]) (by simp; omega)
        rwa [List.append_assoc] at this
      · intro x0 x4 x6 x7 x8 x10 x13 R hx h
        refine Ev.step (fun k => spec_Puny.l4.eq_2 _ _ _ _ _ _ _ _ _ _ _) (ev_bindc (l8Threshold_eq K b) (ev_neg c ?_))
        rw [e1.out, e2.out, e3, e4, e5.out, e6.out, e7.out]
        refine ev_neg (by omega) (ev_bindc (digit_spec _ (by omega) (by omega)) (ev_pos (by omega) ?_))
        refine e x0 _ x6 x7 x8 x10 x13 R (by simp; omega) ?_
        rw [List.append_assoc]
        exact h
/-- how many numbers are less than m, equal to m -/
def less (w : List Int) (m : Int) : Nat := w.countP (fun c => decide (c < m))
def eqs (w : List Int) (m : Int) : Nat := w.countP (fun c => decide (c = m))
theorem less_succ (w : List Int) (m : Int) : less w (m + 1) = less w m + eqs w m := by
  unfold less eqs
  induction w with
  | nil => rfl
  | cons a w ih =>
    simp only [List.countP_cons, ih]
    by_cases h1 : a < m
    · have h2 : a < m + 1 := by omega
      have h3 : ¬ a = m := by omega
      simp only [decide_eq_true h1, decide_eq_true h2, decide_eq_false h3, if_true]
      simp
      omega
    · by_cases h2 : a = m
      · have h3 : a < m + 1 := by omega
        simp only [decide_eq_false h1, decide_eq_true h2, decide_eq_true h3, if_true]
        simp
        omega
      · have h3 : ¬ a < m + 1 := by omega
        simp only [decide_eq_false h1, decide_eq_false h2, decide_eq_false h3]
        simp
theorem less_le (w : List Int) (m : Int) : less w m ≤ w.length := List.countP_le_length
theorem take_snoc' (l : List Int) (i : Nat) (h : i < l.length) : l.take (i + 1) = l.take i ++ [rd l (i : Int)] := by
  rw [List.take_succ_eq_append_getElem h]; simp [rd, h]
theorem eqs_take (w : List Int) (m : Int) (i : Nat) (h : i < w.length) : eqs (w.take (i + 1)) m = eqs (w.take i) m + if rd w (i : Int) = m then 1 else 0 := by
  rw [take_snoc' w i h]; unfold eqs; rw [List.countP_append]; simp [List.countP_cons]
theorem eqs_take_le (w : List Int) (m : Int) (i : Nat) : eqs (w.take i) m ≤ eqs w m := by
  unfold eqs
  have := List.take_append_drop i w
  conv => rhs; rw [← this, List.countP_append]
  omega
theorem z_step {a b i : Nat} {delta : Int} (het : b = a) (hz : a = 0 ∨ delta ≤ i) : b = 0 ∨ delta + 1 ≤ ((i + 1 : Nat) : Int) := by omega
theorem z_keep {a b i : Nat} {delta : Int} (het : b = a) (hz : a = 0 ∨ delta ≤ i) : b = 0 ∨ delta ≤ ((i + 1 : Nat) : Int) := by omega
theorem z_end {a i : Nat} {delta : Int} (hz : a = 0 ∨ delta ≤ i) (hi : i ≤ 20) : a = 0 ∨ delta ≤ 20 := by omega
/-- the inner loop: what is m is written, h counts up -/
theorem inner_both (w : List Int) (basic : Int) (hw : w.length ≤ 20) (m : Int) (h0 : Nat) (B : Int) (hB : B ≤ 1000000000)
    (hO : ∀ (R : List Int) (delta bias : Int), 0 ≤ delta → delta ≤ B → 0 ≤ bias → bias ≤ 400 → R.length ≤ 50 + 45 * (h0 + eqs w m) → (eqs w m = 0 ∨ delta ≤ 20) →
      ∃ F : List Int, Ev (fun k => impl_puny.l1 k w (strOfNums R) basic (wrap64 (m + 1)) (wrap64 (delta + 1)) bias ((h0 + eqs w m : Nat) : Int)) (strOfNums F) ∧ Ev (fun k => spec_Puny.l1 k w R basic (wrap64 (m + 1)) (wrap64 (delta + 1)) bias ((h0 + eqs w m : Nat) : Int)) (strOfNums F, true)) (hh : h0 + eqs w m ≤ 20) :
    ∀ (d i : Nat) (R : List Int) (delta bias : Int), i + d = w.length → 0 ≤ delta → delta + d ≤ B → 0 ≤ bias → bias ≤ 400 → R.length ≤ 50 + 45 * (h0 + eqs (w.take i) m) → (eqs (w.take i) m = 0 ∨ delta ≤ i) →
      ∃ F : List Int, Ev (fun k => impl_puny.l3 k w (strOfNums R) basic m delta bias ((h0 + eqs (w.take i) m : Nat) : Int) w (w.length : Int) (i : Int)) (strOfNums F) ∧
        Ev (fun k => spec_Puny.l3 k w R basic m delta bias ((h0 + eqs (w.take i) m : Nat) : Int) (i : Int)) (strOfNums F, true) := by
  intro d
  induction d with
  | zero =>
    intro i R delta bias hi hd0 hd1 hb0 hb1 hR hz
    rw [List.take_of_length_le (by omega)] at hR hz ⊢
    obtain ⟨F, f1, f2⟩ := hO R delta bias hd0 (by omega) hb0 hb1 hR (z_end hz (by omega))
    exact ⟨F, Ev.step (fun k => impl_puny.l3.eq_2 _ _ _ _ _ _ _ _ _ _ _) (ev_neg (by omega) f1), Ev.step (fun k => spec_Puny.l3.eq_2 _ _ _ _ _ _ _ _ _) (ev_neg (by omega) f2)⟩
  | succ d ih =>
    intro i R delta bias hi hd0 hd1 hb0 hb1 hR hz
    have het := eqs_take w m i (by omega)
    have hle := eqs_take_le w m i
    have hle1 := eqs_take_le w m (i + 1)
    have ei : Aside0 (wrap64 ((i : Int) + 1) = ((i + 1 : Nat) : Int)) := ⟨by unfold wrap64; omega⟩
    by_cases c1 : rd w (i : Int) < m
    · rw [if_neg (by omega), Nat.add_zero] at het
      obtain ⟨F, f1, f2⟩ := ih (i + 1) R (delta + 1) bias (by omega) (by omega) (by omega) hb0 hb1 (by rw [het]; exact hR) (z_step het hz)
      rw [het] at f1 f2
      refine ⟨F, ?_, ?_⟩
      · refine Ev.step (fun k => impl_puny.l3.eq_2 _ _ _ _ _ _ _ _ _ _ _) (ev_pos (by omega) (ev_pos (by omega) (ev_pos (by omega) (ev_pos c1 ?_))))
        refine Ev.step (fun k => impl_puny.j5.eq_2 _ _ _ _ _ _ _ _ _ _ _ _) (ev_neg (by omega) ?_)
        rw [ei.out, w64 (by omega) (by omega)]; exact f1
      · refine Ev.step (fun k => spec_Puny.l3.eq_2 _ _ _ _ _ _ _ _ _) (ev_pos (by omega) (ev_pos (by omega) (ev_pos c1 ?_)))
        refine Ev.step (fun k => spec_Puny.j5.eq_2 _ _ _ _ _ _ _ _ _) (ev_pos (by omega) (ev_pos (by omega) (ev_neg (by omega) ?_)))
        rw [ei.out, w64 (by omega) (by omega)]; exact f2
    · by_cases c2 : rd w (i : Int) = m
      · rw [if_pos c2] at het
        obtain ⟨D, dl, t1, t2⟩ := told_both bias 40 delta 36 hd0 (by have := hB; clear hO hR hz hle hle1 het ih; omega) (by decide) (by decide) (by decide)
        obtain ⟨nb, n0, n1, n2⟩ := adapted_ev delta ((h0 + eqs (w.take i) m : Nat) + 1) (((h0 + eqs (w.take i) m : Nat) : Int) == basic) hd0 (by omega) (by omega) (by omega)
        obtain ⟨F, f1, f2⟩ := ih (i + 1) (R ++ D) 0 nb (by omega) (by omega) (by omega) n0 (by omega) (by simp; omega) (.inr (Int.natCast_nonneg _))
        have eh : Aside0 (wrap64 (((h0 + eqs (w.take i) m : Nat) : Int) + 1) = ((h0 + eqs (w.take (i + 1)) m : Nat) : Int)) := ⟨by rw [het]; unfold wrap64; omega⟩
        have eh' : ((h0 + eqs (w.take i) m : Nat) : Int) + 1 = ((h0 + eqs (w.take (i + 1)) m : Nat) : Int) := by rw [het]; omega
        rw [eh'] at n2
        refine ⟨F, ?_, ?_⟩
        · refine Ev.step (fun k => impl_puny.l3.eq_2 _ _ _ _ _ _ _ _ _ _ _) (ev_pos (by omega) (ev_pos (by omega) (ev_pos (by omega) (ev_neg c1 ?_))))
          have ht : Ev (fun k => impl_told.f k delta bias) (strOfNums D) := by
            exact t1 [] (by simp)
          refine Ev.step (fun k => impl_puny.j5.eq_2 _ _ _ _ _ _ _ _ _ _ _ _) (ev_pos c2 (Ev.bind ht (ev_pos (by rw [strOfNums_size, strOfNums_size]; omega) ?_)))
          rw [eh.out, ei.out, ← str_append]
          exact Ev.bind n2 f1
        · refine Ev.step (fun k => spec_Puny.l3.eq_2 _ _ _ _ _ _ _ _ _) (ev_pos (by omega) (ev_pos (by omega) (ev_neg c1 ?_)))
          refine Ev.step (fun k => spec_Puny.j5.eq_2 _ _ _ _ _ _ _ _ _) (ev_pos (by omega) (ev_pos (by omega) (ev_pos c2 ?_)))
          refine t2 _ _ _ _ _ _ _ _ (by omega) ?_
          rw [eh.out, ei.out]
          exact Ev.bind (Ev.congr (fun k => bias_f k _ _ _) n2) f2
      · rw [if_neg c2, Nat.add_zero] at het
        obtain ⟨F, f1, f2⟩ := ih (i + 1) R delta bias (by omega) (by omega) (by omega) hb0 hb1 (by rw [het]; exact hR) (z_keep het hz)
        rw [het] at f1 f2
        refine ⟨F, ?_, ?_⟩
        · refine Ev.step (fun k => impl_puny.l3.eq_2 _ _ _ _ _ _ _ _ _ _ _) (ev_pos (by omega) (ev_pos (by omega) (ev_pos (by omega) (ev_neg c1 ?_))))
          refine Ev.step (fun k => impl_puny.j5.eq_2 _ _ _ _ _ _ _ _ _ _ _ _) (ev_neg c2 ?_)
          rw [ei.out]; exact f1
        · refine Ev.step (fun k => spec_Puny.l3.eq_2 _ _ _ _ _ _ _ _ _) (ev_pos (by omega) (ev_pos (by omega) (ev_neg c1 ?_)))
          refine Ev.step (fun k => spec_Puny.j5.eq_2 _ _ _ _ _ _ _ _ _) (ev_pos (by omega) (ev_pos (by omega) (ev_neg c2 ?_)))
          rw [ei.out]; exact f2
/-- the least number from n on -/
theorem least_both (w : List Int) (hw : w.length ≤ 20) (hr : ∀ x ∈ w, 0 ≤ x ∧ x ≤ 1114111) (n : Int) (hn0 : 0 ≤ n) : ∀ (d i : Nat) (m : Int), i + d = w.length → n ≤ m → m ≤ 1114112 → (m = 1114112 ∨ m ∈ w) → (∀ j, j < i → rd w (j : Int) < n ∨ m ≤ rd w (j : Int)) →
    ∃ m', n ≤ m' ∧ m' ≤ 1114112 ∧ (m' = 1114112 ∨ m' ∈ w) ∧ (∀ x ∈ w, x < n ∨ m' ≤ x) ∧
      (∀ (x6 : ByteArray) (x7 x9 x10 x11 : Int) (R : ByteArray), Ev (fun k => impl_puny.l3 k w x6 x7 m' (wrap64 (x9 + (wrap64 ((wrap64 (m' - n)) * (wrap64 (x11 + 1)))))) x10 x11 w (w.length : Int) 0) R → Ev (fun k => impl_puny.l2 k w x6 x7 n x9 x10 x11 m w (w.length : Int) (i : Int)) R) ∧
      (∀ (x4 : List Int) (x6 x8 x9 x10 : Int) (R : ByteArray × Bool), Ev (fun k => spec_Puny.l3 k w x4 x6 m' (wrap64 (x8 + (wrap64 ((wrap64 (m' - n)) * (wrap64 (x10 + 1)))))) x9 x10 0) R → Ev (fun k => spec_Puny.l2 k w x4 x6 n x8 x9 x10 m (i : Int)) R) := by
  intro d
  induction d with
  | zero =>
    intro i m hi h1 h2 h3 h4
    refine ⟨m, h1, h2, h3, ?_, ?_, ?_⟩
    · intro x hx
      obtain ⟨j, hj, rfl⟩ := List.mem_iff_getElem.1 hx
      have := h4 j (by omega)
      simpa [rd, hj] using this
    · intro x6 x7 x9 x10 x11 R h
      exact Ev.step (fun k => impl_puny.l2.eq_2 _ _ _ _ _ _ _ _ _ _ _ _) (ev_neg (by omega) h)
    · intro x4 x6 x8 x9 x10 R h
      exact Ev.step (fun k => spec_Puny.l2.eq_2 _ _ _ _ _ _ _ _ _ _) (ev_neg (by omega) h)
  | succ d ih =>
    intro i m hi h1 h2 h3 h4
    have hm := rd_mem (xs := w) (i := (i : Int)) (by omega) (by omega)
    have hrm := hr _ hm
    have ei : Aside0 (wrap64 ((i : Int) + 1) = ((i + 1 : Nat) : Int)) := ⟨by unfold wrap64; omega⟩
    by_cases c : rd w (i : Int) ≥ n
    · have hmn : mn m (rd w (i : Int)) ≤ m ∧ mn m (rd w (i : Int)) ≤ rd w (i : Int) ∧ (mn m (rd w (i : Int)) = m ∨ mn m (rd w (i : Int)) = rd w (i : Int)) := by unfold mn; split <;> omega
      obtain ⟨m', a1, a2, a3, a4, a5, a6⟩ := ih (i + 1) (mn m (rd w (i : Int))) (by omega) (by omega) (by omega) (by rcases hmn.2.2 with e | e <;> rw [e]; exact h3; exact .inr hm) (by
        intro j hj
        by_cases e : j = i
        · subst e; exact .inr hmn.2.1
        · rcases h4 j (by omega) with q | q
          · exact .inl q
          · exact .inr (by omega))
      refine ⟨m', a1, a2, a3, a4, ?_, ?_⟩
      · intro x6 x7 x9 x10 x11 R h
        refine Ev.step (fun k => impl_puny.l2.eq_2 _ _ _ _ _ _ _ _ _ _ _ _) (ev_pos (by omega) (ev_pos (by omega) (ev_pos (by omega) (ev_pos c ?_))))
        rw [ei.out]; exact a5 _ _ _ _ _ _ h
      · intro x4 x6 x8 x9 x10 R h
        have e : spec_l1Min.f m (rd w (i : Int)) = some (mn m (rd w (i : Int))) := by
          unfold spec_l1Min.f mn
          by_cases q : m < rd w (i : Int)
          · rw [if_pos q, if_neg (by omega)]
          · by_cases q' : rd w (i : Int) < m
            · rw [if_neg q, if_pos q']
            · rw [if_neg q, if_neg q']; congr 1; omega
        refine Ev.step (fun k => spec_Puny.l2.eq_2 _ _ _ _ _ _ _ _ _ _) (ev_pos (by omega) (ev_pos (by omega) (ev_pos c (ev_bindc e ?_))))
        rw [ei.out]; exact a6 _ _ _ _ _ _ h
    · obtain ⟨m', a1, a2, a3, a4, a5, a6⟩ := ih (i + 1) m (by omega) h1 h2 h3 (by
        intro j hj
        by_cases e : j = i
        · subst e; exact .inl (by omega)
        · exact h4 j (by omega))
      refine ⟨m', a1, a2, a3, a4, ?_, ?_⟩
      · intro x6 x7 x9 x10 x11 R h
        refine Ev.step (fun k => impl_puny.l2.eq_2 _ _ _ _ _ _ _ _ _ _ _ _) (ev_pos (by omega) (ev_pos (by omega) (ev_pos (by omega) (ev_neg c ?_))))
        rw [ei.out]; exact a5 _ _ _ _ _ _ h
      · intro x4 x6 x8 x9 x10 R h
        refine Ev.step (fun k => spec_Puny.l2.eq_2 _ _ _ _ _ _ _ _ _ _) (ev_pos (by omega) (ev_pos (by omega) (ev_neg c ?_)))
        rw [ei.out]; exact a6 _ _ _ _ _ _ h
theorem less_mid (w : List Int) (n m : Int) (hnm : n ≤ m) (h : ∀ x ∈ w, x < n ∨ m ≤ x) : less w m = less w n := by
  unfold less
  apply List.countP_congr
  intro x hx
  rcases h x hx with a | a
  · simp [a, show x < m by omega]
  · simp [show ¬ x < m by omega, show ¬ x < n by omega]
theorem less_all (w : List Int) (m : Int) (h : ∀ x ∈ w, x < m) : less w m = w.length := by
  unfold less; rw [List.countP_eq_length]; intro x hx; simpa using h x hx
theorem eqs_pos (w : List Int) (m : Int) (h : m ∈ w) : 0 < eqs w m := by
  unfold eqs; rw [List.countP_pos_iff]; exact ⟨m, h, by simp⟩
theorem outer_both (w : List Int) (basic : Int) (hw : w.length ≤ 20) (hr : ∀ x ∈ w, 0 ≤ x ∧ x ≤ 1114111) : ∀ (g : Nat) (n delta bias : Int) (R : List Int), w.length - less w n ≤ g → 0 ≤ n → n ≤ 1114112 → 0 ≤ delta → delta ≤ 21 → 0 ≤ bias → bias ≤ 400 → R.length ≤ 50 + 45 * less w n →
    ∃ F : List Int, Ev (fun k => impl_puny.l1 k w (strOfNums R) basic n delta bias ((less w n : Nat) : Int)) (strOfNums F) ∧ Ev (fun k => spec_Puny.l1 k w R basic n delta bias ((less w n : Nat) : Int)) (strOfNums F, true) := by
  intro g
  induction g with
  | zero =>
    intro n delta bias R hg hn0 hn1 hd0 hd1 hb0 hb1 hR
    have := less_le w n
    exact ⟨R, Ev.step (fun k => impl_puny.l1.eq_2 _ _ _ _ _ _ _ _) (ev_neg (by omega) (Ev.now _)), Ev.step (fun k => spec_Puny.l1.eq_2 _ _ _ _ _ _ _ _) (ev_neg (by omega) (Ev.now _))⟩
  | succ g ih =>
    intro n delta bias R hg hn0 hn1 hd0 hd1 hb0 hb1 hR
    have hle := less_le w n
    by_cases c : ((less w n : Nat) : Int) < (w.length : Int)
    · obtain ⟨m, a1, a2, a3, a4, a5, a6⟩ := least_both w hw hr n hn0 w.length 0 1114112 (by omega) hn1 (by omega) (.inl rfl) (fun j hj => by omega)
      have hmw : m ∈ w := by
        rcases a3 with e | e
        · exfalso
          have : less w n = w.length := less_all w n (fun x hx => by have := hr x hx; rcases a4 x hx with q | q <;> omega)
          omega
        · exact e
      have hm1 := (hr m hmw).2
      have hlm := less_mid w n m a1 a4
      have hls := less_succ w m
      have hep := eqs_pos w m hmw
      have hl1 := less_le w (m + 1)
      have hmul : 0 ≤ (m - n) * ((less w n : Nat) + 1 : Int) ∧ (m - n) * ((less w n : Nat) + 1 : Int) ≤ 1114112 * 21 := by
        constructor
        · exact Int.mul_nonneg (by omega) (by omega)
        · exact Int.le_trans (Int.mul_le_mul_of_nonneg_left (show ((less w n : Nat) + 1 : Int) ≤ 21 by omega) (by omega)) (by omega)
      have e1 : Aside0 (wrap64 (m - n) = m - n) := ⟨w64 (by omega) (by omega)⟩
      have e2 : Aside0 (wrap64 (((less w n : Nat) : Int) + 1) = ((less w n : Nat) : Int) + 1) := ⟨w64 (by omega) (by omega)⟩
      have e3 : Aside0 (wrap64 ((m - n) * (((less w n : Nat) : Int) + 1)) = (m - n) * (((less w n : Nat) : Int) + 1)) := ⟨w64 (by omega) (by omega)⟩
      have e4 : Aside0 (wrap64 (delta + (m - n) * (((less w n : Nat) : Int) + 1)) = delta + (m - n) * (((less w n : Nat) : Int) + 1)) := ⟨w64 (by omega) (by omega)⟩
      have hlt : less w n + eqs w m = less w (m + 1) := by rw [hls, hlm]
      obtain ⟨F, f1, f2⟩ := inner_both w basic hw m (less w n) 30000000 (by decide) (by
          intro R' dl bs q0 q1 q2 q3 q4 q5
          rw [hlt] at q4 ⊢
          rw [w64 (x := m + 1) (by omega) (by omega), w64 (x := dl + 1) (by omega) (by omega)]
          exact ih (m + 1) (dl + 1) bs R' (by omega) (by omega) (by omega) (by omega) (by omega) q2 q3 q4) (by omega)
        w.length 0 R (delta + (m - n) * (((less w n : Nat) : Int) + 1)) bias (by omega) (by omega) (by omega) hb0 hb1 (by simp [eqs]; omega) (.inl (by simp [eqs]))
      have z : eqs (w.take 0) m = 0 := by simp [eqs]
      rw [z, Nat.add_zero] at f1 f2
      refine ⟨F, ?_, ?_⟩
      · refine Ev.step (fun k => impl_puny.l1.eq_2 _ _ _ _ _ _ _ _) (ev_pos c (a5 _ _ _ _ _ _ ?_))
        rw [e1.out, e2.out, e3.out, e4.out]; exact f1
      · refine Ev.step (fun k => spec_Puny.l1.eq_2 _ _ _ _ _ _ _ _) (ev_pos c (a6 _ _ _ _ _ _ ?_))
        rw [e1.out, e2.out, e3.out, e4.out]; exact f2
    · exact ⟨R, Ev.step (fun k => impl_puny.l1.eq_2 _ _ _ _ _ _ _ _) (ev_neg c (Ev.now _)), Ev.step (fun k => spec_Puny.l1.eq_2 _ _ _ _ _ _ _ _) (ev_neg c (Ev.now _))⟩
/-- the plain ones of a word -/
def plainOf (w : List Int) : List Int := w.filter (fun c => decide (c < 128))
theorem plain_length (w : List Int) : (plainOf w).length = less w 128 := by unfold plainOf less; rw [List.countP_eq_length_filter]
theorem plain_take (w : List Int) (i : Nat) (h : i < w.length) : plainOf (w.take (i + 1)) = plainOf (w.take i) ++ if rd w (i : Int) < 128 then [rd w (i : Int)] else [] := by
  rw [take_snoc' w i h]; unfold plainOf; rw [List.filter_append]; simp [List.filter_cons]
theorem puny_both (w : List Int) (hw : w.length ≤ 20) (hr : ∀ x ∈ w, 0 ≤ x ∧ x ≤ 1114111) : ∃ F : List Int, Ev (fun k => impl_puny.f k w) (strOfNums F) ∧ Ev (fun k => spec_Puny.l0 k w [] 0) (strOfNums F, true) := by
  have hpl : ∀ i, i ≤ w.length → (plainOf (w.take i)).length ≤ i := by
    intro i hi
    unfold plainOf
    refine Nat.le_trans (List.length_filter_le _ _) ?_
    rw [List.length_take]; omega
  have fin : ∃ F : List Int, Ev (fun k => impl_puny.l0 k w (plainOf w) w (w.length : Int) (w.length : Int)) (strOfNums F) ∧ Ev (fun k => spec_Puny.l0 k w (plainOf w) (w.length : Int)) (strOfNums F, true) := by
    have hp := plain_length w
    have hl := less_le w 128
    by_cases c : ((plainOf w).length : Int) > 0
    · obtain ⟨F, f1, f2⟩ := outer_both w ((plainOf w).length : Int) hw hr w.length 128 0 72 (plainOf w ++ [45]) (by omega) (by omega) (by omega) (by omega) (by omega) (by omega) (by omega) (by simp; omega)
      rw [← hp] at f1 f2
      refine ⟨F, ?_, ?_⟩
      · refine Ev.step (fun k => impl_puny.l0.eq_2 _ _ _ _ _ _) (ev_neg (by omega) (ev_pos c (ev_pos (by rw [strOfNums_size]; omega) ?_)))
        refine Ev.step (fun k => impl_puny.j1.eq_2 _ _ _ _) ?_
        rw [show (strOfNums (plainOf w) ++ (⟨#[45]⟩ : ByteArray)) = strOfNums (plainOf w ++ [45]) by rw [str_append]; rfl]
        exact f1
      · refine Ev.step (fun k => spec_Puny.l0.eq_2 _ _ _ _) (ev_neg (by omega) (ev_pos c (ev_pos (by omega) ?_)))
        exact Ev.step (fun k => spec_Puny.j1.eq_2 _ _ _ _) f2
    · obtain ⟨F, f1, f2⟩ := outer_both w ((plainOf w).length : Int) hw hr w.length 128 0 72 (plainOf w) (by omega) (by omega) (by omega) (by omega) (by omega) (by omega) (by omega) (by omega)
      rw [← hp] at f1 f2
      refine ⟨F, ?_, ?_⟩
      · refine Ev.step (fun k => impl_puny.l0.eq_2 _ _ _ _ _ _) (ev_neg (by omega) (ev_neg c ?_))
        exact Ev.step (fun k => impl_puny.j1.eq_2 _ _ _ _) f1
      · refine Ev.step (fun k => spec_Puny.l0.eq_2 _ _ _ _) (ev_neg (by omega) (ev_neg c ?_))
        exact Ev.step (fun k => spec_Puny.j1.eq_2 _ _ _ _) f2
  obtain ⟨F, f1, f2⟩ := fin
  have key : ∀ d i : Nat, i + d = w.length → Ev (fun k => impl_puny.l0 k w (plainOf (w.take i)) w (w.length : Int) (i : Int)) (strOfNums F) ∧ Ev (fun k => spec_Puny.l0 k w (plainOf (w.take i)) (i : Int)) (strOfNums F, true) := by
    intro d
    induction d with
    | zero =>
      intro i hi
      obtain rfl : i = w.length := by omega
      rw [List.take_length]
      exact ⟨f1, f2⟩
    | succ d ih =>
      intro i hi
      obtain ⟨g1, g2⟩ := ih (i + 1) (by omega)
      have hm := hr _ (rd_mem (xs := w) (i := (i : Int)) (by omega) (by omega))
      have ei : Aside0 (wrap64 ((i : Int) + 1) = ((i + 1 : Nat) : Int)) := ⟨by unfold wrap64; omega⟩
      have hpi := hpl i (by omega)
      rw [plain_take w i (by omega)] at g1 g2
      by_cases c : rd w (i : Int) < 128
      · rw [if_pos c] at g1 g2
        refine ⟨?_, ?_⟩
        · refine Ev.step (fun k => impl_puny.l0.eq_2 _ _ _ _ _ _) (ev_pos (by omega) (ev_pos (by omega) (ev_pos (by omega) (ev_pos c (ev_pos (by omega) ?_)))))
          rw [ei.out, show rd w (i : Int) % 256 = rd w (i : Int) by omega]; exact g1
        · refine Ev.step (fun k => spec_Puny.l0.eq_2 _ _ _ _) (ev_pos (by omega) (ev_pos (by omega) (ev_pos c (ev_pos (by omega) ?_))))
          rw [ei.out, show rd w (i : Int) % 256 = rd w (i : Int) by omega]; exact g2
      · rw [if_neg c, List.append_nil] at g1 g2
        refine ⟨?_, ?_⟩
        · refine Ev.step (fun k => impl_puny.l0.eq_2 _ _ _ _ _ _) (ev_pos (by omega) (ev_pos (by omega) (ev_pos (by omega) (ev_neg c ?_))))
          rw [ei.out]; exact g1
        · refine Ev.step (fun k => spec_Puny.l0.eq_2 _ _ _ _) (ev_pos (by omega) (ev_pos (by omega) (ev_neg c ?_)))
          rw [ei.out]; exact g2
  exact ⟨F, key w.length 0 (by omega)⟩
theorem allWithin_ev (l : List Int) (a b : Int) (hl : l.length ≤ 1099511627776) : Ev (fun k => impl_allWithin.f k l a b) (l.all (fun x => decide (a ≤ x ∧ x ≤ b))) := by
  rw [← all_range_rd, ← Bool.and_true (List.all _ _)]
  refine all_ev (L := fun k i => impl_allWithin.l0 k a b l (l.length : Int) i) l.length ?_ ?_ ?_
  · intro i hi hp r h
    refine Ev.step (fun k => impl_allWithin.l0.eq_2 _ _ _ _ _ _) (ev_pos (by omega) (ev_pos (by omega) (ev_pos (by omega) (ev_bindc (within_eq _ _ _) (ev_pos hp ?_)))))
    rw [w64 (by omega) (by omega)]; exact h
  · intro i hi hp
    exact Ev.step (fun k => impl_allWithin.l0.eq_2 _ _ _ _ _ _) (ev_pos (by omega) (ev_pos (by omega) (ev_pos (by omega) (ev_bindc (within_eq _ _ _) (ev_neg (by rw [hp]; simp) (Ev.now _))))))
  · exact Ev.step (fun k => impl_allWithin.l0.eq_2 _ _ _ _ _ _) (ev_neg (by omega) (Ev.now _))
def wordOk (w : List Int) : Bool := w.all (fun x => decide (0 ≤ x ∧ x ≤ 1114111)) && decide (1 ≤ (w.length : Int) ∧ (w.length : Int) ≤ 20)
theorem isWord_ev (w : List Int) (hl : w.length ≤ 1048576) : Ev (fun k => impl_isWord.f k w) (wordOk w) := by
  unfold wordOk
  refine ev_bindc (within_eq _ _ _) ?_
  by_cases h : 1 ≤ (w.length : Int) ∧ (w.length : Int) ≤ 20
  · rw [decide_eq_true h, Bool.and_true]
    exact ev_pos rfl (Ev.bind (allWithin_ev w 0 1114111 (by omega)) (Ev.now _))
  · rw [decide_eq_false h, Bool.and_false]
    exact ev_neg (by simp) (Ev.now _)
theorem l8WordOk_ev (w : List Int) (hl : w.length ≤ 1048576) : Ev (fun k => spec_l8WordOk.f k w) (wordOk w) := by
  unfold wordOk
  rw [← all_range_rd]
  refine all_ev (L := fun k i => spec_l8WordOk.l0 k w i) w.length ?_ ?_ ?_
  · intro i hi hp r h
    refine Ev.step (fun k => spec_l8WordOk.l0.eq_2 _ _ _) (ev_pos (by omega) (ev_pos (by omega) (ev_bindc (l1In_eq _ _ _) (ev_pos hp ?_))))
    rw [w64 (by omega) (by omega)]; exact h
  · intro i hi hp
    exact Ev.step (fun k => spec_l8WordOk.l0.eq_2 _ _ _) (ev_pos (by omega) (ev_pos (by omega) (ev_bindc (l1In_eq _ _ _) (ev_neg (by rw [hp]; simp) (Ev.now _)))))
  · exact Ev.step (fun k => spec_l8WordOk.l0.eq_2 _ _ _) (ev_neg (by omega) (ev_bindc (l1In_eq _ _ _) (Ev.now _)))
theorem wordOk_parts {w : List Int} (h : wordOk w = true) : w.length ≤ 20 ∧ 1 ≤ w.length ∧ ∀ x ∈ w, 0 ≤ x ∧ x ≤ 1114111 := by
  unfold wordOk at h
  simp only [Bool.and_eq_true, List.all_eq_true, decide_eq_true_eq] at h
  exact ⟨by omega, by omega, h.1⟩
theorem Puny_both (w : List Int) (hl : w.length ≤ 1048576) : ∃ R : ByteArray × Bool, Ev (fun k => impl_Puny.f k w) R ∧ Ev (fun k => spec_Puny.f k w) R ∧ R.2 = wordOk w := by
  cases c : wordOk w with
  | true =>
    obtain ⟨h1, _, h2⟩ := wordOk_parts c
    obtain ⟨F, f1, f2⟩ := puny_both w h1 h2
    exact ⟨(strOfNums F, true), Ev.bind (isWord_ev w hl) (ev_pos c (Ev.bind f1 (Ev.now _))), Ev.bind (l8WordOk_ev w hl) (ev_pos c f2), rfl⟩
  | false =>
    exact ⟨(⟨#[]⟩, false), Ev.bind (isWord_ev w hl) (ev_neg (by rw [c]; simp) (Ev.now _)), Ev.bind (l8WordOk_ev w hl) (ev_neg (by rw [c]; simp) (Ev.now _)), rfl⟩
theorem FnExactPuny : laws_FnExactPuny.Pure := by
  intro w _ _ _
  by_cases c0 : (w.length : Int) > 1048576
  · exact ev_k (ev_pos c0 (Ev.now _))
  have h := toIntS_ev w (by omega)
  obtain ⟨R, h1, h2, _⟩ := Puny_both w (by omega)
  refine ev_k (ev_neg c0 (Ev.bind h (Ev.bind h2 (Ev.bind h (Ev.bind h1 (ev_pos rfl ?_))))))
  exact Ev.step (fun k => laws_FnExactPuny.j0.eq_2 _ _ _ _) (ev_neg (by simp) (Ev.bind h (Ev.bind (eqIntS_ev w (by omega)) (ev_pos rfl (Ev.now _)))))

end Go.Proofs.Ythhomopijhopfaa.Pure
