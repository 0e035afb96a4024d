/- A drawn word comes back from its puny text, where that is not too long; what is read as one is written as itself. -/
import Derived.Test.YthhomopijhopfaaGFnPunyx8
import Derived.Test.YthhomopijhopfaaBase
namespace Go.Proofs.Ythhomopijhopfaa.Pure
open Go.RowKit Go.Proofs.Ythhomopijhopfaa.GFnPuny Go.Proofs.YthhomopijhopfaaW.PrintWords Go.Proofs.YthhomopijhopfaaW.PrintLast Go.Proofs.Ythhomopijhopfaa.Base
set_option linter.unusedVariables false
set_option linter.unusedSimpArgs false

/-! ### draws: what the laws' generators give -/
theorem and255 (x : Int) : 0 ≤ Go.bits .and .i64 x 255 ∧ Go.bits .and .i64 x 255 ≤ 255 := by
  have h : (BitVec.ofInt 64 x &&& BitVec.ofInt 64 255).toNat ≤ 255 := by
    rw [BitVec.toNat_and]
    exact Nat.le_trans Nat.and_le_right (by decide)
  have e : Go.bits .and .i64 x 255 = IntKind.i64.wrap ((BitVec.ofInt 64 x &&& BitVec.ofInt 64 255).toNat : Int) := rfl
  rw [e]
  generalize (BitVec.ofInt 64 x &&& BitVec.ofInt 64 255).toNat = m at h
  rw [wrap_i64_id 62 (by decide) _ (by omega) (by omega)]
  omega
theorem new_ev (l : List Int) (hl : l.length ≤ 1048576) : ∃ s, Ev (fun k => spec_l1New.f k l) (l, 0, s) := by
  have H : ∀ (d i : Nat) (s : Int), i + d = 4000 → ∃ s', Ev (fun k => spec_l1New.l0 k l s (i : Int)) (l, 0, s') := by
    intro d
    induction d with
    | zero =>
      intro i s hi
      by_cases c : (i : Int) < (l.length : Int)
      · exact ⟨s, Ev.step (fun k => spec_l1New.l0.eq_2 _ _ _ _) (ev_pos c (ev_neg (by omega) (Ev.now _)))⟩
      · exact ⟨s, Ev.step (fun k => spec_l1New.l0.eq_2 _ _ _ _) (ev_neg c (Ev.now _))⟩
    | succ d ih =>
      intro i s hi
      by_cases c : (i : Int) < (l.length : Int)
      · obtain ⟨s', h⟩ := ih (i + 1) (Go.bits .and .i64 (wrap64 ((wrap64 ((wrap64 (s * 131)) + (wrap64 (rd l (i : Int))))) + 7)) 1073741823) (by omega)
        refine ⟨s', Ev.step (fun k => spec_l1New.l0.eq_2 _ _ _ _) (ev_pos c (ev_pos (by omega) (ev_pos (by omega) ?_)))⟩
        rw [w64 (x := (i : Int) + 1) (by omega) (by omega)]
        exact h
      · exact ⟨s, Ev.step (fun k => spec_l1New.l0.eq_2 _ _ _ _) (ev_neg c (Ev.now _))⟩
  exact H 4000 0 _ rfl
/-- the place in the bytes that are drawn from -/
structure At (l : List Int) (p : Int) : Prop where
  big : l.length ≤ 1048576
  lo : 0 ≤ p
  hi : p ≤ 1048576
theorem byte_some {l : List Int} {p : Int} (h : At l p) (s : Int) : ∃ b p' s', spec_l1Byte.f l p s = some (b, p', s') ∧ 0 ≤ b ∧ b ≤ 255 ∧ At l p' := by
  unfold spec_l1Byte.f
  have hb := h.big
  have h0 := h.lo
  have h1 := h.hi
  by_cases c : p < (l.length : Int)
  · rw [if_pos c, if_pos h0, w64 (x := p + 1) (by omega) (by omega)]
    exact ⟨_, _, _, rfl, (and255 _).1, (and255 _).2, ⟨hb, by omega, by omega⟩⟩
  · rw [if_neg c]
    exact ⟨_, _, _, rfl, (and255 _).1, (and255 _).2, h⟩
theorem below_some {l : List Int} {p : Int} (h : At l p) (s : Int) (a : Int) (h0 : 0 < a) (h1 : a ≤ 4294967296) : ∃ v p' s', spec_l1Below.f l p s a = some (v, p', s') ∧ 0 ≤ v ∧ v < a ∧ At l p' := by
  unfold spec_l1Below.f
  rw [if_neg (by omega)]
  by_cases c : a ≤ 256
  · rw [if_pos c]
    obtain ⟨b, p', s', e, r0, r1, h'⟩ := byte_some h s
    rw [e]
    simp only [Option.bind_some]
    rw [if_neg (by omega), Int.tmod_eq_emod_of_nonneg r0]
    exact ⟨_, _, _, rfl, Int.emod_nonneg _ (by omega), Int.emod_lt_of_pos _ h0, h'⟩
  · rw [if_neg c]
    obtain ⟨b1, p1, s1, e1, r1, q1, h1'⟩ := byte_some h s
    rw [e1]
    simp only [Option.bind_some]
    obtain ⟨b2, p2, s2, e2, r2, q2, h2'⟩ := byte_some h1' s1
    rw [e2]
    simp only [Option.bind_some]
    obtain ⟨b3, p3, s3, e3, r3, q3, h3'⟩ := byte_some h2' s2
    rw [e3]
    simp only [Option.bind_some]
    obtain ⟨b4, p4, s4, e4, r4, q4, h4'⟩ := byte_some h3' s3
    rw [e4]
    simp only [Option.bind_some]
    rw [if_neg (by omega), w64 (x := b1 * 16777216) (by omega) (by omega), w64 (x := b2 * 65536) (by omega) (by omega), w64 (x := b1 * 16777216 + b2 * 65536) (by omega) (by omega), w64 (x := b3 * 256) (by omega) (by omega),
      w64 (x := b1 * 16777216 + b2 * 65536 + b3 * 256) (by omega) (by omega), w64 (x := b1 * 16777216 + b2 * 65536 + b3 * 256 + b4) (by omega) (by omega), Int.tmod_eq_emod_of_nonneg (by omega)]
    exact ⟨_, _, _, rfl, Int.emod_nonneg _ (by omega), Int.emod_lt_of_pos _ h0, h4'⟩
theorem pick_some {l : List Int} {p : Int} (h : At l p) (s : Int) (xs : List Int) (h0 : 0 < xs.length) (h1 : xs.length ≤ 1048576) : ∃ v p' s', spec_l1PickInt.f l p s xs = some (v, p', s') ∧ v ∈ xs ∧ At l p' := by
  unfold spec_l1PickInt.f
  obtain ⟨v, p', s', e, r0, r1, h'⟩ := below_some h s (xs.length : Int) (by omega) (by omega)
  rw [e]
  simp only [Option.bind_some]
  rw [if_pos r0, if_pos r1]
  exact ⟨_, _, _, rfl, rd_mem r0 r1, h'⟩
theorem l1In_eq (x a b : Int) : spec_l1In.f x a b = some (decide (a ≤ x ∧ x ≤ b)) := by
  unfold spec_l1In.f
  by_cases h : x ≥ a
  · rw [if_pos h]; simp [show a ≤ x from h]
  · rw [if_neg h]; simp [show ¬ a ≤ x from h]
theorem within_eq (x a b : Int) : impl_within.f x a b = some (decide (a ≤ x ∧ x ≤ b)) := l1In_eq x a b
/-! ### Puny: both programs write the same digits -/
theorem str_append (x y : List Int) : strOfNums (x ++ y) = strOfNums x ++ strOfNums y := by
  apply ByteArray.ext
  rw [ByteArray.data_append]
  simp [strOfNums]
theorem thr_range (K b : Int) : 1 ≤ mn 26 (mx 1 (wrap64 (K - b))) ∧ mn 26 (mx 1 (wrap64 (K - b))) ≤ 26 := by unfold mn mx; (repeat' split) <;> omega
def thr (K b : Int) : Int := mn 26 (mx 1 (wrap64 (K - b)))
theorem threshold_eq (K b : Int) : impl_threshold.f K b = some (thr K b) := rfl
theorem l8Threshold_eq (K b : Int) : spec_l8Threshold.f K b = some (thr K b) := by
  unfold spec_l8Threshold.f spec_l1Min.f spec_l1Max.f thr mn mx
  generalize wrap64 (K - b) = x
  by_cases h1 : 26 < x
  · simp [h1, show (1 : Int) < x by omega, show ¬ x < 26 by omega]
  · by_cases h2 : 1 < x
    · by_cases h3 : x < 26
      · simp [h1, h2, h3, show ¬ x < 1 by omega]
      · obtain rfl : x = 26 := by omega
        simp
    · by_cases h3 : x < 1
      · simp [h1, h2, h3]
      · obtain rfl : x = 1 := by omega
        simp
def dgt (d : Int) : Int := if d < 26 then 97 + d else 22 + d
theorem digit_spec (d : Int) (h0 : 0 ≤ d) (h1 : d < 36) : spec_l8PunyDigit.f d = some (dgt d) := by
  unfold spec_l8PunyDigit.f dgt
  by_cases h : d < 26
  · rw [if_pos h, if_pos h]; congr 1; unfold wrap64; omega
  · rw [if_neg h, if_neg h]; congr 1; unfold wrap64; omega
theorem digit_impl (d : Int) (h0 : 0 ≤ d) (h1 : d < 36) : bt (⟨#[97, 98, 99, 100, 101, 102, 103, 104, 105, 106, 107, 108, 109, 110, 111, 112, 113, 114, 115, 116, 117, 118, 119, 120, 121, 122, 48, 49, 50, 51, 52, 53, 54, 55, 56, 57]⟩ : ByteArray) d = dgt d := by
  obtain ⟨n, rfl⟩ := Int.eq_ofNat_of_zero_le h0
  have hn : n < 36 := by omega
  have : ∀ n : Fin 36, bt (⟨#[97, 98, 99, 100, 101, 102, 103, 104, 105, 106, 107, 108, 109, 110, 111, 112, 113, 114, 115, 116, 117, 118, 119, 120, 121, 122, 48, 49, 50, 51, 52, 53, 54, 55, 56, 57]⟩ : ByteArray) (n : Nat) = dgt (n : Nat) := by decide +kernel
  exact this ⟨n, hn⟩
theorem bias_same : ∀ k, (∀ x y, impl_adapted.l0 k x y = spec_l8Bias.l0 k x y) := by
  intro k
  induction k with
  | zero => intro x y; rfl
  | succ k ih => intro x y; rw [impl_adapted.l0.eq_2, spec_l8Bias.l0.eq_2, ih]
theorem bias_f (k : Nat) (a b : Int) (c : Bool) : spec_l8Bias.f k a b c = impl_adapted.f k a b c := by
  unfold spec_l8Bias.f impl_adapted.f
  cases k with
  | zero => rfl
  | succ k =>
    rw [impl_adapted.j0.eq_2, impl_adapted.j0.eq_2, spec_l8Bias.j0.eq_2, spec_l8Bias.j0.eq_2]
    simp only [bias_same]
theorem adapt_loop : ∀ (n : Nat) (x y : Int), 0 ≤ x → x < 35 ^ n * 456 → 0 ≤ y → y + 36 * n ≤ 1000 → n ≤ 8 → ∃ r, 0 ≤ r ∧ r ≤ y + 36 * n + 36 ∧ Ev (fun k => impl_adapted.l0 k x y) r := by
  have stop : ∀ x y : Int, 0 ≤ x → x ≤ 455 → 0 ≤ y → y ≤ 1000 → ∃ r, 0 ≤ r ∧ r ≤ y + 36 ∧ Ev (fun k => impl_adapted.l0 k x y) r := by
    intro x y h0 h1 h2 h3
    have e1 : Aside0 (wrap64 (x + 38) = x + 38) := ⟨w64 (by omega) (by omega)⟩
    have e2 : Aside0 (wrap64 (36 * x) = 36 * x) := ⟨w64 (by omega) (by omega)⟩
    have hq : 0 ≤ (36 * x) / (x + 38) := Int.ediv_nonneg (by omega) (by omega)
    have hq2 : (36 * x) / (x + 38) < 36 := Int.ediv_lt_of_lt_mul (by omega) (by omega)
    refine ⟨y + (36 * x) / (x + 38), by omega, by omega, ?_⟩
    refine Ev.step (fun k => impl_adapted.l0.eq_2 _ _ _) (ev_neg (by omega) ?_)
    rw [e1.out, e2.out, Int.tdiv_eq_ediv_of_nonneg (by omega)]
    refine ev_neg (by omega) ?_
    rw [w64 (x := 36 * x / (x + 38)) (by omega) (by omega), w64 (by omega) (by omega)]
    exact Ev.now _
  intro n
  induction n with
  | zero =>
    intro x y h0 h1 h2 h3 _
    obtain ⟨r, a, b, c⟩ := stop x y h0 (by omega) h2 (by omega)
    exact ⟨r, a, by omega, c⟩
  | succ n ih =>
    intro x y h0 h1 h2 h3 h4
    by_cases c : x > 455
    · have hx : x / 35 < 35 ^ n * 456 := by
        have : x < 35 * (35 ^ n * 456) := by rw [← Int.mul_assoc, Int.mul_comm 35, ← Int.pow_succ]; exact h1
        omega
      have hb : x < 2 ^ 62 := by
        have : (35 : Int) ^ (n + 1) ≤ 35 ^ 8 := by
          have := Nat.pow_le_pow_right (n := 35) (by decide) h4
          rw [← Int.ofNat_le] at this
          rwa [Int.natCast_pow, Int.natCast_pow] at this
        omega
      obtain ⟨r, a, b, d⟩ := ih (x / 35) (y + 36) (by omega) hx (by omega) (by omega) (by omega)
      refine ⟨r, a, by omega, Ev.step (fun k => impl_adapted.l0.eq_2 _ _ _) (ev_pos c ?_)⟩
      rw [Int.tdiv_eq_ediv_of_nonneg (by omega), w64 (x := x / 35) (by omega) (by omega), w64 (by omega) (by omega)]
      exact d
    · obtain ⟨r, a, b, d⟩ := stop x y h0 (by omega) h2 (by omega)
      exact ⟨r, a, by omega, d⟩
theorem adapted_ev (d m : Int) (f : Bool) (h0 : 0 ≤ d) (h1 : d ≤ 43980465111040) (h2 : 1 ≤ m) (h3 : m ≤ 100) : ∃ r, 0 ≤ r ∧ r ≤ 360 ∧ Ev (fun k => impl_adapted.f k d m f) r := by
  have hq : ∀ e : Int, 0 ≤ e → e ≤ 21990232555520 → ∃ r, 0 ≤ r ∧ r ≤ 360 ∧ Ev (fun k => impl_adapted.j0 k e m) r := by
    intro e he0 he1
    have q0 : 0 ≤ e / m := Int.ediv_nonneg he0 (by omega)
    have q1 : e / m ≤ e := Int.ediv_le_self _ he0
    obtain ⟨r, a, b, c⟩ := adapt_loop 8 (e + e / m) 0 (by omega) (by omega) (by omega) (by omega) (by omega)
    refine ⟨r, a, by omega, Ev.step (fun k => impl_adapted.j0.eq_2 _ _ _) (ev_neg (by omega) ?_)⟩
    rw [Int.tdiv_eq_ediv_of_nonneg he0, w64 (x := e / m) (by omega) (by omega), w64 (by omega) (by omega)]
    exact c
  unfold impl_adapted.f
  cases f with
  | true =>
    obtain ⟨r, a, b, c⟩ := hq (d / 700) (by omega) (by omega)
    refine ⟨r, a, b, ev_pos rfl ?_⟩
    rw [Int.tdiv_eq_ediv_of_nonneg h0, w64 (by omega) (by omega)]; exact c
  | false =>
    obtain ⟨r, a, b, c⟩ := hq (d / 2) (by omega) (by omega)
    refine ⟨r, a, b, ev_neg (by simp) ?_⟩
    rw [Int.tdiv_eq_ediv_of_nonneg h0, w64 (by omega) (by omega)]; exact c
/-- the digits of a number: what both programs write -/
theorem told_both (b : Int) : ∀ (n : Nat) (q K : Int), 0 ≤ q → q < 2 ^ n → n ≤ 40 → 36 ≤ K → K + 36 * n ≤ 2000 → ∃ D : List Int, D.length ≤ n + 1 ∧
    (∀ x5 : List Int, x5.length + n ≤ 10000 → Ev (fun k => impl_told.l0 k b x5 q K) (strOfNums (x5 ++ D))) ∧
    (∀ (x0 x4 : List Int) (x6 x7 x8 x10 x13 : Int) (R : ByteArray × Bool), x4.length + n ≤ 10000 →
      Ev (fun k => (spec_l8Bias.f k x8 (wrap64 (x10 + 1)) (x10 == x6)).bind fun t => spec_Puny.l3 k x0 (x4 ++ D) x6 x7 0 t (wrap64 (x10 + 1)) (wrap64 (x13 + 1))) R →
      Ev (fun k => spec_Puny.l4 k x0 x4 x6 x7 x8 b x10 x13 q K) R) := by
  have stop : ∀ (n : Nat) (q K : Int), 0 ≤ q → q < thr K b → ∃ D : List Int, D.length ≤ n + 1 ∧
    (∀ x5 : List Int, x5.length + n ≤ 10000 → Ev (fun k => impl_told.l0 k b x5 q K) (strOfNums (x5 ++ D))) ∧
    (∀ (x0 x4 : List Int) (x6 x7 x8 x10 x13 : Int) (R : ByteArray × Bool), x4.length + n ≤ 10000 →
      Ev (fun k => (spec_l8Bias.f k x8 (wrap64 (x10 + 1)) (x10 == x6)).bind fun t => spec_Puny.l3 k x0 (x4 ++ D) x6 x7 0 t (wrap64 (x10 + 1)) (wrap64 (x13 + 1))) R →
      Ev (fun k => spec_Puny.l4 k x0 x4 x6 x7 x8 b x10 x13 q K) R) := by
    intro n q K h0 h1
    have ht := thr_range K b
    unfold thr at h1
    refine ⟨[dgt q], by simp, ?_, ?_⟩
    · intro x5 hx
      refine Ev.step (fun k => impl_told.l0.eq_2 _ _ _ _ _) (ev_bindc (threshold_eq K b) (ev_pos h1 (ev_pos h0 (ev_pos (by omega) (ev_pos (by omega) ?_)))))
      rw [digit_impl q h0 (by omega)]; exact Ev.now _
    · intro x0 x4 x6 x7 x8 x10 x13 R hx h
      exact Ev.step (fun k => spec_Puny.l4.eq_2 _ _ _ _ _ _ _ _ _ _ _) (ev_bindc (l8Threshold_eq K b) (ev_pos h1 (ev_bindc (digit_spec q h0 (by omega)) (ev_pos (by omega) h))))
  intro n
  induction n with
  | zero =>
    intro q K h0 h1 _ h2 h3
    refine stop 0 q K h0 ?_
    have ht := thr_range K b
    unfold thr; omega
  | succ n ih =>
    intro q K h0 h1 hn h2 h3
    by_cases c : q < thr K b
    · obtain ⟨D, a, d, e⟩ := stop (n + 1) q K h0 c
      exact ⟨D, a, d, e⟩
    · have ht := thr_range K b
      have hT : thr K b = mn 26 (mx 1 (wrap64 (K - b))) := rfl
      rw [← hT] at ht
      have hb : q < 2 ^ 62 := by have := pow2_le (show n + 1 ≤ 62 by omega); omega
      have m0 : 0 ≤ (q - thr K b) % (36 - thr K b) := Int.emod_nonneg _ (by omega)
      have m1 : (q - thr K b) % (36 - thr K b) < 36 - thr K b := Int.emod_lt_of_pos _ (by omega)
      have d0 : 0 ≤ (q - thr K b) / (36 - thr K b) := Int.ediv_nonneg (by omega) (by omega)
      have d1 : (q - thr K b) / (36 - thr K b) < 2 ^ n := by
        refine Int.ediv_lt_of_lt_mul (by omega) ?_
        have h2n : (2 : Int) ^ (n + 1) = 2 ^ n * 2 := Int.pow_succ ..
        have hp : (0 : Int) < 2 ^ n := Int.pow_pos (by decide)
        have : (2 : Int) ^ n * 2 ≤ 2 ^ n * (36 - thr K b) := Int.mul_le_mul_of_nonneg_left (by omega) (by omega)
        omega
      have e1 : Aside0 (wrap64 (q - thr K b) = q - thr K b) := ⟨w64 (by omega) (by omega)⟩
      have e2 : Aside0 (wrap64 (36 - thr K b) = 36 - thr K b) := ⟨w64 (by omega) (by omega)⟩
      have e3 : Int.tmod (q - thr K b) (36 - thr K b) = (q - thr K b) % (36 - thr K b) := Int.tmod_eq_emod_of_nonneg (by omega)
      have e4 : Int.tdiv (q - thr K b) (36 - thr K b) = (q - thr K b) / (36 - thr K b) := Int.tdiv_eq_ediv_of_nonneg (by omega)
      have e5 : Aside0 (wrap64 (thr K b + (q - thr K b) % (36 - thr K b)) = thr K b + (q - thr K b) % (36 - thr K b)) := ⟨w64 (by omega) (by omega)⟩
      have e6 : Aside0 (wrap64 ((q - thr K b) / (36 - thr K b)) = (q - thr K b) / (36 - thr K b)) := Aside0.mk <| by
        have := pow2_le (show n ≤ 62 by omega)
        exact w64 (by omega) (by omega)
      have e7 : Aside0 (wrap64 (K + 36) = K + 36) := ⟨w64 (by omega) (by omega)⟩
      obtain ⟨D, a, d, e⟩ := ih ((q - thr K b) / (36 - thr K b)) (K + 36) d0 d1 (by omega) (by omega) (by omega)
      refine ⟨dgt (thr K b + (q - thr K b) % (36 - thr K b)) :: D, by simp; omega, ?_, ?_⟩
      · intro x5 hx
        refine Ev.step (fun k => impl_told.l0.eq_2 _ _ _ _ _) (ev_bindc (threshold_eq K b) (ev_neg c ?_))
        rw [e1.out, e2.out, e3, e4, e5.out, e6.out, e7.out]
        refine ev_neg (by omega) (ev_pos (by omega) (ev_pos (by omega) (ev_pos (by omega) ?_)))
        rw [digit_impl _ (by omega) (by omega)]
        have := d (x5 ++ [dgt (thr K b + (q - thr K b) % (36 - thr K b))]) (by simp; omega)
        rwa [List.append_assoc] at this
      · intro x0 x4 x6 x7 x8 x10 x13 R hx h
        refine Ev.step (fun k => spec_Puny.l4.eq_2 _ _ _ _ _ _ _ _ _ _ _) (ev_bindc (l8Threshold_eq K b) (ev_neg c ?_))
        rw [e1.out, e2.out, e3, e4, e5.out, e6.out, e7.out]
        refine ev_neg (by omega) (ev_bindc (digit_spec _ (by omega) (by omega)) (ev_pos (by omega) ?_))
        refine e x0 _ x6 x7 x8 x10 x13 R (by simp; omega) ?_
        rw [List.append_assoc]
        exact h
/-- how many numbers are less than m, equal to m -/
def less (w : List Int) (m : Int) : Nat := w.countP (fun c => decide (c < m))
def eqs (w : List Int) (m : Int) : Nat := w.countP (fun c => decide (c = m))
theorem less_succ (w : List Int) (m : Int) : less w (m + 1) = less w m + eqs w m := by
  unfold less eqs
  induction w with
  | nil => rfl
  | cons a w ih =>
    simp only [List.countP_cons, ih]
    by_cases h1 : a < m
    · have h2 : a < m + 1 := by omega
      have h3 : ¬ a = m := by omega
      simp only [decide_eq_true h1, decide_eq_true h2, decide_eq_false h3, if_true]
      simp
      omega
    · by_cases h2 : a = m
      · have h3 : a < m + 1 := by omega
        simp only [decide_eq_false h1, decide_eq_true h2, decide_eq_true h3, if_true]
        simp
        omega
      · have h3 : ¬ a < m + 1 := by omega
        simp only [decide_eq_false h1, decide_eq_false h2, decide_eq_false h3]
        simp
theorem less_le (w : List Int) (m : Int) : less w m ≤ w.length := List.countP_le_length
theorem take_snoc' (l : List Int) (i : Nat) (h : i < l.length) : l.take (i + 1) = l.take i ++ [rd l (i : Int)] := by
  rw [List.take_succ_eq_append_getElem h]; simp [rd, h]
theorem eqs_take (w : List Int) (m : Int) (i : Nat) (h : i < w.length) : eqs (w.take (i + 1)) m = eqs (w.take i) m + if rd w (i : Int) = m then 1 else 0 := by
  rw [take_snoc' w i h]; unfold eqs; rw [List.countP_append]; simp [List.countP_cons]
theorem eqs_take_le (w : List Int) (m : Int) (i : Nat) : eqs (w.take i) m ≤ eqs w m := by
  unfold eqs
  have := List.take_append_drop i w
  conv => rhs; rw [← this, List.countP_append]
  omega
theorem z_step {a b i : Nat} {delta : Int} (het : b = a) (hz : a = 0 ∨ delta ≤ i) : b = 0 ∨ delta + 1 ≤ ((i + 1 : Nat) : Int) := by omega
theorem z_keep {a b i : Nat} {delta : Int} (het : b = a) (hz : a = 0 ∨ delta ≤ i) : b = 0 ∨ delta ≤ ((i + 1 : Nat) : Int) := by omega
theorem z_end {a i : Nat} {delta : Int} (hz : a = 0 ∨ delta ≤ i) (hi : i ≤ 20) : a = 0 ∨ delta ≤ 20 := by omega
/-- the inner loop: what is m is written, h counts up -/
theorem inner_both (w : List Int) (basic : Int) (hw : w.length ≤ 20) (m : Int) (h0 : Nat) (B : Int) (hB : B ≤ 1000000000)
    (hO : ∀ (R : List Int) (delta bias : Int), 0 ≤ delta → delta ≤ B → 0 ≤ bias → bias ≤ 400 → R.length ≤ 50 + 45 * (h0 + eqs w m) → (eqs w m = 0 ∨ delta ≤ 20) →
      ∃ F : List Int, Ev (fun k => impl_puny.l1 k w (strOfNums R) basic (wrap64 (m + 1)) (wrap64 (delta + 1)) bias ((h0 + eqs w m : Nat) : Int)) (strOfNums F) ∧ Ev (fun k => spec_Puny.l1 k w R basic (wrap64 (m + 1)) (wrap64 (delta + 1)) bias ((h0 + eqs w m : Nat) : Int)) (strOfNums F, true)) (hh : h0 + eqs w m ≤ 20) :
    ∀ (d i : Nat) (R : List Int) (delta bias : Int), i + d = w.length → 0 ≤ delta → delta + d ≤ B → 0 ≤ bias → bias ≤ 400 → R.length ≤ 50 + 45 * (h0 + eqs (w.take i) m) → (eqs (w.take i) m = 0 ∨ delta ≤ i) →
      ∃ F : List Int, Ev (fun k => impl_puny.l3 k w (strOfNums R) basic m delta bias ((h0 + eqs (w.take i) m : Nat) : Int) w (w.length : Int) (i : Int)) (strOfNums F) ∧
        Ev (fun k => spec_Puny.l3 k w R basic m delta bias ((h0 + eqs (w.take i) m : Nat) : Int) (i : Int)) (strOfNums F, true) := by
  intro d
  induction d with
  | zero =>
    intro i R delta bias hi hd0 hd1 hb0 hb1 hR hz
    rw [List.take_of_length_le (by omega)] at hR hz ⊢
    obtain ⟨F, f1, f2⟩ := hO R delta bias hd0 (by omega) hb0 hb1 hR (z_end hz (by omega))
    exact ⟨F, Ev.step (fun k => impl_puny.l3.eq_2 _ _ _ _ _ _ _ _ _ _ _) (ev_neg (by omega) f1), Ev.step (fun k => spec_Puny.l3.eq_2 _ _ _ _ _ _ _ _ _) (ev_neg (by omega) f2)⟩
  | succ d ih =>
    intro i R delta bias hi hd0 hd1 hb0 hb1 hR hz
    have het := eqs_take w m i (by omega)
    have hle := eqs_take_le w m i
    have hle1 := eqs_take_le w m (i + 1)
    have ei : Aside0 (wrap64 ((i : Int) + 1) = ((i + 1 : Nat) : Int)) := ⟨by unfold wrap64; omega⟩
    by_cases c1 : rd w (i : Int) < m
    · rw [if_neg (by omega), Nat.add_zero] at het
      obtain ⟨F, f1, f2⟩ := ih (i + 1) R (delta + 1) bias (by omega) (by omega) (by omega) hb0 hb1 (by rw [het]; exact hR) (z_step het hz)
      rw [het] at f1 f2
      refine ⟨F, ?_, ?_⟩
      · refine Ev.step (fun k => impl_puny.l3.eq_2 _ _ _ _ _ _ _ _ _ _ _) (ev_pos (by omega) (ev_pos (by omega) (ev_pos (by omega) (ev_pos c1 ?_))))
        refine Ev.step (fun k => impl_puny.j5.eq_2 _ _ _ _ _ _ _ _ _ _ _ _) (ev_neg (by omega) ?_)
        rw [ei.out, w64 (by omega) (by omega)]; exact f1
      · refine Ev.step (fun k => spec_Puny.l3.eq_2 _ _ _ _ _ _ _ _ _) (ev_pos (by omega) (ev_pos (by omega) (ev_pos c1 ?_)))
        refine Ev.step (fun k => spec_Puny.j5.eq_2 _ _ _ _ _ _ _ _ _) (ev_pos (by omega) (ev_pos (by omega) (ev_neg (by omega) ?_)))
        rw [ei.out, w64 (by omega) (by omega)]; exact f2
    · by_cases c2 : rd w (i : Int) = m
      · rw [if_pos c2] at het
        obtain ⟨D, dl, t1, t2⟩ := told_both bias 40 delta 36 hd0 (by have := hB; clear hO hR hz hle hle1 het ih; omega) (by decide) (by decide) (by decide)
        obtain ⟨nb, n0, n1, n2⟩ := adapted_ev delta ((h0 + eqs (w.take i) m : Nat) + 1) (((h0 + eqs (w.take i) m : Nat) : Int) == basic) hd0 (by omega) (by omega) (by omega)
        obtain ⟨F, f1, f2⟩ := ih (i + 1) (R ++ D) 0 nb (by omega) (by omega) (by omega) n0 (by omega) (by simp; omega) (.inr (Int.natCast_nonneg _))
        have eh : Aside0 (wrap64 (((h0 + eqs (w.take i) m : Nat) : Int) + 1) = ((h0 + eqs (w.take (i + 1)) m : Nat) : Int)) := ⟨by rw [het]; unfold wrap64; omega⟩
        have eh' : ((h0 + eqs (w.take i) m : Nat) : Int) + 1 = ((h0 + eqs (w.take (i + 1)) m : Nat) : Int) := by rw [het]; omega
        rw [eh'] at n2
        refine ⟨F, ?_, ?_⟩
        · refine Ev.step (fun k => impl_puny.l3.eq_2 _ _ _ _ _ _ _ _ _ _ _) (ev_pos (by omega) (ev_pos (by omega) (ev_pos (by omega) (ev_neg c1 ?_))))
          have ht : Ev (fun k => impl_told.f k delta bias) (strOfNums D) := by
            exact t1 [] (by simp)
          refine Ev.step (fun k => impl_puny.j5.eq_2 _ _ _ _ _ _ _ _ _ _ _ _) (ev_pos c2 (Ev.bind ht (ev_pos (by rw [strOfNums_size, strOfNums_size]; omega) ?_)))
          rw [eh.out, ei.out, ← str_append]
          exact Ev.bind n2 f1
        · refine Ev.step (fun k => spec_Puny.l3.eq_2 _ _ _ _ _ _ _ _ _) (ev_pos (by omega) (ev_pos (by omega) (ev_neg c1 ?_)))
          refine Ev.step (fun k => spec_Puny.j5.eq_2 _ _ _ _ _ _ _ _ _) (ev_pos (by omega) (ev_pos (by omega) (ev_pos c2 ?_)))
          refine t2 _ _ _ _ _ _ _ _ (by omega) ?_
          rw [eh.out, ei.out]
          exact Ev.bind (Ev.congr (fun k => bias_f k _ _ _) n2) f2
      · rw [if_neg c2, Nat.add_zero] at het
        obtain ⟨F, f1, f2⟩ := ih (i + 1) R delta bias (by omega) (by omega) (by omega) hb0 hb1 (by rw [het]; exact hR) (z_keep het hz)
        rw [het] at f1 f2
        refine ⟨F, ?_, ?_⟩
        · refine Ev.step (fun k => impl_puny.l3.eq_2 _ _ _ _ _ _ _ _ _ _ _) (ev_pos (by omega) (ev_pos (by omega) (ev_pos (by omega) (ev_neg c1 ?_))))
          refine Ev.step (fun k => impl_puny.j5.eq_2 _ _ _ _ _ _ _ _ _ _ _ _) (ev_neg c2 ?_)
          rw [ei.out]; exact f1
        · refine Ev.step (fun k => spec_Puny.l3.eq_2 _ _ _ _ _ _ _ _ _) (ev_pos (by omega) (ev_pos (by omega) (ev_neg c1 ?_)))
          refine Ev.step (fun k => spec_Puny.j5.eq_2 _ _ _ _ _ _ _ _ _) (ev_pos (by omega) (ev_pos (by omega) (ev_neg c2 ?_)))
          rw [ei.out]; exact f2
/-- the least number from n on -/
theorem least_both (w : List Int) (hw : w.length ≤ 20) (hr : ∀ x ∈ w, 0 ≤ x ∧ x ≤ 1114111) (n : Int) (hn0 : 0 ≤ n) : ∀ (d i : Nat) (m : Int), i + d = w.length → n ≤ m → m ≤ 1114112 → (m = 1114112 ∨ m ∈ w) → (∀ j, j < i → rd w (j : Int) < n ∨ m ≤ rd w (j : Int)) →
    ∃ m', n ≤ m' ∧ m' ≤ 1114112 ∧ (m' = 1114112 ∨ m' ∈ w) ∧ (∀ x ∈ w, x < n ∨ m' ≤ x) ∧
      (∀ (x6 : ByteArray) (x7 x9 x10 x11 : Int) (R : ByteArray), Ev (fun k => impl_puny.l3 k w x6 x7 m' (wrap64 (x9 + (wrap64 ((wrap64 (m' - n)) * (wrap64 (x11 + 1)))))) x10 x11 w (w.length : Int) 0) R → Ev (fun k => impl_puny.l2 k w x6 x7 n x9 x10 x11 m w (w.length : Int) (i : Int)) R) ∧
      (∀ (x4 : List Int) (x6 x8 x9 x10 : Int) (R : ByteArray × Bool), Ev (fun k => spec_Puny.l3 k w x4 x6 m' (wrap64 (x8 + (wrap64 ((wrap64 (m' - n)) * (wrap64 (x10 + 1)))))) x9 x10 0) R → Ev (fun k => spec_Puny.l2 k w x4 x6 n x8 x9 x10 m (i : Int)) R) := by
  intro d
  induction d with
  | zero =>
    intro i m hi h1 h2 h3 h4
    refine ⟨m, h1, h2, h3, ?_, ?_, ?_⟩
    · intro x hx
      obtain ⟨j, hj, rfl⟩ := List.mem_iff_getElem.1 hx
      have := h4 j (by omega)
      simpa [rd, hj] using this
    · intro x6 x7 x9 x10 x11 R h
      exact Ev.step (fun k => impl_puny.l2.eq_2 _ _ _ _ _ _ _ _ _ _ _ _) (ev_neg (by omega) h)
    · intro x4 x6 x8 x9 x10 R h
      exact Ev.step (fun k => spec_Puny.l2.eq_2 _ _ _ _ _ _ _ _ _ _) (ev_neg (by omega) h)
  | succ d ih =>
    intro i m hi h1 h2 h3 h4
    have hm := rd_mem (xs := w) (i := (i : Int)) (by omega) (by omega)
    have hrm := hr _ hm
    have ei : Aside0 (wrap64 ((i : Int) + 1) = ((i + 1 : Nat) : Int)) := ⟨by unfold wrap64; omega⟩
    by_cases c : rd w (i : Int) ≥ n
    · have hmn : mn m (rd w (i : Int)) ≤ m ∧ mn m (rd w (i : Int)) ≤ rd w (i : Int) ∧ (mn m (rd w (i : Int)) = m ∨ mn m (rd w (i : Int)) = rd w (i : Int)) := by unfold mn; split <;> omega
      obtain ⟨m', a1, a2, a3, a4, a5, a6⟩ := ih (i + 1) (mn m (rd w (i : Int))) (by omega) (by omega) (by omega) (by rcases hmn.2.2 with e | e <;> rw [e]; exact h3; exact .inr hm) (by
        intro j hj
        by_cases e : j = i
        · subst e; exact .inr hmn.2.1
        · rcases h4 j (by omega) with q | q
          · exact .inl q
          · exact .inr (by omega))
      refine ⟨m', a1, a2, a3, a4, ?_, ?_⟩
      · intro x6 x7 x9 x10 x11 R h
        refine Ev.step (fun k => impl_puny.l2.eq_2 _ _ _ _ _ _ _ _ _ _ _ _) (ev_pos (by omega) (ev_pos (by omega) (ev_pos (by omega) (ev_pos c ?_))))
        rw [ei.out]; exact a5 _ _ _ _ _ _ h
      · intro x4 x6 x8 x9 x10 R h
        have e : spec_l1Min.f m (rd w (i : Int)) = some (mn m (rd w (i : Int))) := by
          unfold spec_l1Min.f mn
          by_cases q : m < rd w (i : Int)
          · rw [if_pos q, if_neg (by omega)]
          · by_cases q' : rd w (i : Int) < m
            · rw [if_neg q, if_pos q']
            · rw [if_neg q, if_neg q']; congr 1; omega
        refine Ev.step (fun k => spec_Puny.l2.eq_2 _ _ _ _ _ _ _ _ _ _) (ev_pos (by omega) (ev_pos (by omega) (ev_pos c (ev_bindc e ?_))))
        rw [ei.out]; exact a6 _ _ _ _ _ _ h
    · obtain ⟨m', a1, a2, a3, a4, a5, a6⟩ := ih (i + 1) m (by omega) h1 h2 h3 (by
        intro j hj
        by_cases e : j = i
        · subst e; exact .inl (by omega)
        · exact h4 j (by omega))
      refine ⟨m', a1, a2, a3, a4, ?_, ?_⟩
      · intro x6 x7 x9 x10 x11 R h
        refine Ev.step (fun k => impl_puny.l2.eq_2 _ _ _ _ _ _ _ _ _ _ _ _) (ev_pos (by omega) (ev_pos (by omega) (ev_pos (by omega) (ev_neg c ?_))))
        rw [ei.out]; exact a5 _ _ _ _ _ _ h
      · intro x4 x6 x8 x9 x10 R h
        refine Ev.step (fun k => spec_Puny.l2.eq_2 _ _ _ _ _ _ _ _ _ _) (ev_pos (by omega) (ev_pos (by omega) (ev_neg c ?_)))
        rw [ei.out]; exact a6 _ _ _ _ _ _ h
theorem less_mid (w : List Int) (n m : Int) (hnm : n ≤ m) (h : ∀ x ∈ w, x < n ∨ m ≤ x) : less w m = less w n := by
  unfold less
  apply List.countP_congr
  intro x hx
  rcases h x hx with a | a
  · simp [a, show x < m by omega]
  · simp [show ¬ x < m by omega, show ¬ x < n by omega]
theorem less_all (w : List Int) (m : Int) (h : ∀ x ∈ w, x < m) : less w m = w.length := by
  unfold less; rw [List.countP_eq_length]; intro x hx; simpa using h x hx
theorem eqs_pos (w : List Int) (m : Int) (h : m ∈ w) : 0 < eqs w m := by
  unfold eqs; rw [List.countP_pos_iff]; exact ⟨m, h, by simp⟩
theorem outer_both (w : List Int) (basic : Int) (hw : w.length ≤ 20) (hr : ∀ x ∈ w, 0 ≤ x ∧ x ≤ 1114111) : ∀ (g : Nat) (n delta bias : Int) (R : List Int), w.length - less w n ≤ g → 0 ≤ n → n ≤ 1114112 → 0 ≤ delta → delta ≤ 21 → 0 ≤ bias → bias ≤ 400 → R.length ≤ 50 + 45 * less w n →
    ∃ F : List Int, Ev (fun k => impl_puny.l1 k w (strOfNums R) basic n delta bias ((less w n : Nat) : Int)) (strOfNums F) ∧ Ev (fun k => spec_Puny.l1 k w R basic n delta bias ((less w n : Nat) : Int)) (strOfNums F, true) := by
  intro g
  induction g with
  | zero =>
    intro n delta bias R hg hn0 hn1 hd0 hd1 hb0 hb1 hR
    have := less_le w n
    exact ⟨R, Ev.step (fun k => impl_puny.l1.eq_2 _ _ _ _ _ _ _ _) (ev_neg (by omega) (Ev.now _)), Ev.step (fun k => spec_Puny.l1.eq_2 _ _ _ _ _ _ _ _) (ev_neg (by omega) (Ev.now _))⟩
  | succ g ih =>
    intro n delta bias R hg hn0 hn1 hd0 hd1 hb0 hb1 hR
    have hle := less_le w n
    by_cases c : ((less w n : Nat) : Int) < (w.length : Int)
    · obtain ⟨m, a1, a2, a3, a4, a5, a6⟩ := least_both w hw hr n hn0 w.length 0 1114112 (by omega) hn1 (by omega) (.inl rfl) (fun j hj => by omega)
      have hmw : m ∈ w := by
        rcases a3 with e | e
        · exfalso
          have : less w n = w.length := less_all w n (fun x hx => by have := hr x hx; rcases a4 x hx with q | q <;> omega)
          omega
        · exact e
      have hm1 := (hr m hmw).2
      have hlm := less_mid w n m a1 a4
      have hls := less_succ w m
      have hep := eqs_pos w m hmw
      have hl1 := less_le w (m + 1)
      have hmul : 0 ≤ (m - n) * ((less w n : Nat) + 1 : Int) ∧ (m - n) * ((less w n : Nat) + 1 : Int) ≤ 1114112 * 21 := by
        constructor
        · exact Int.mul_nonneg (by omega) (by omega)
        · exact Int.le_trans (Int.mul_le_mul_of_nonneg_left (show ((less w n : Nat) + 1 : Int) ≤ 21 by omega) (by omega)) (by omega)
      have e1 : Aside0 (wrap64 (m - n) = m - n) := ⟨w64 (by omega) (by omega)⟩
      have e2 : Aside0 (wrap64 (((less w n : Nat) : Int) + 1) = ((less w n : Nat) : Int) + 1) := ⟨w64 (by omega) (by omega)⟩
      have e3 : Aside0 (wrap64 ((m - n) * (((less w n : Nat) : Int) + 1)) = (m - n) * (((less w n : Nat) : Int) + 1)) := ⟨w64 (by omega) (by omega)⟩
      have e4 : Aside0 (wrap64 (delta + (m - n) * (((less w n : Nat) : Int) + 1)) = delta + (m - n) * (((less w n : Nat) : Int) + 1)) := ⟨w64 (by omega) (by omega)⟩
      have hlt : less w n + eqs w m = less w (m + 1) := by rw [hls, hlm]
      obtain ⟨F, f1, f2⟩ := inner_both w basic hw m (less w n) 30000000 (by decide) (by
          intro R' dl bs q0 q1 q2 q3 q4 q5
          rw [hlt] at q4 ⊢
          rw [w64 (x := m + 1) (by omega) (by omega), w64 (x := dl + 1) (by omega) (by omega)]
          exact ih (m + 1) (dl + 1) bs R' (by omega) (by omega) (by omega) (by omega) (by omega) q2 q3 q4) (by omega)
        w.length 0 R (delta + (m - n) * (((less w n : Nat) : Int) + 1)) bias (by omega) (by omega) (by omega) hb0 hb1 (by simp [eqs]; omega) (.inl (by simp [eqs]))
      have z : eqs (w.take 0) m = 0 := by simp [eqs]
      rw [z, Nat.add_zero] at f1 f2
      refine ⟨F, ?_, ?_⟩
      · refine Ev.step (fun k => impl_puny.l1.eq_2 _ _ _ _ _ _ _ _) (ev_pos c (a5 _ _ _ _ _ _ ?_))
        rw [e1.out, e2.out, e3.out, e4.out]; exact f1
      · refine Ev.step (fun k => spec_Puny.l1.eq_2 _ _ _ _ _ _ _ _) (ev_pos c (a6 _ _ _ _ _ _ ?_))
        rw [e1.out, e2.out, e3.out, e4.out]; exact f2
    · exact ⟨R, Ev.step (fun k => impl_puny.l1.eq_2 _ _ _ _ _ _ _ _) (ev_neg c (Ev.now _)), Ev.step (fun k => spec_Puny.l1.eq_2 _ _ _ _ _ _ _ _) (ev_neg c (Ev.now _))⟩
/-- the plain ones of a word -/
def plainOf (w : List Int) : List Int := w.filter (fun c => decide (c < 128))
theorem plain_length (w : List Int) : (plainOf w).length = less w 128 := by unfold plainOf less; rw [List.countP_eq_length_filter]
theorem plain_take (w : List Int) (i : Nat) (h : i < w.length) : plainOf (w.take (i + 1)) = plainOf (w.take i) ++ if rd w (i : Int) < 128 then [rd w (i : Int)] else [] := by
  rw [take_snoc' w i h]; unfold plainOf; rw [List.filter_append]; simp [List.filter_cons]
theorem puny_both (w : List Int) (hw : w.length ≤ 20) (hr : ∀ x ∈ w, 0 ≤ x ∧ x ≤ 1114111) : ∃ F : List Int, Ev (fun k => impl_puny.f k w) (strOfNums F) ∧ Ev (fun k => spec_Puny.l0 k w [] 0) (strOfNums F, true) := by
  have hpl : ∀ i, i ≤ w.length → (plainOf (w.take i)).length ≤ i := by
    intro i hi
    unfold plainOf
    refine Nat.le_trans (List.length_filter_le _ _) ?_
    rw [List.length_take]; omega
  have fin : ∃ F : List Int, Ev (fun k => impl_puny.l0 k w (plainOf w) w (w.length : Int) (w.length : Int)) (strOfNums F) ∧ Ev (fun k => spec_Puny.l0 k w (plainOf w) (w.length : Int)) (strOfNums F, true) := by
    have hp := plain_length w
    have hl := less_le w 128
    by_cases c : ((plainOf w).length : Int) > 0
    · obtain ⟨F, f1, f2⟩ := outer_both w ((plainOf w).length : Int) hw hr w.length 128 0 72 (plainOf w ++ [45]) (by omega) (by omega) (by omega) (by omega) (by omega) (by omega) (by omega) (by simp; omega)
      rw [← hp] at f1 f2
      refine ⟨F, ?_, ?_⟩
      · refine Ev.step (fun k => impl_puny.l0.eq_2 _ _ _ _ _ _) (ev_neg (by omega) (ev_pos c (ev_pos (by rw [strOfNums_size]; omega) ?_)))
        refine Ev.step (fun k => impl_puny.j1.eq_2 _ _ _ _) ?_
        rw [show (strOfNums (plainOf w) ++ (⟨#[45]⟩ : ByteArray)) = strOfNums (plainOf w ++ [45]) by rw [str_append]; rfl]
        exact f1
      · refine Ev.step (fun k => spec_Puny.l0.eq_2 _ _ _ _) (ev_neg (by omega) (ev_pos c (ev_pos (by omega) ?_)))
        exact Ev.step (fun k => spec_Puny.j1.eq_2 _ _ _ _) f2
    · obtain ⟨F, f1, f2⟩ := outer_both w ((plainOf w).length : Int) hw hr w.length 128 0 72 (plainOf w) (by omega) (by omega) (by omega) (by omega) (by omega) (by omega) (by omega) (by omega)
      rw [← hp] at f1 f2
      refine ⟨F, ?_, ?_⟩
      · refine Ev.step (fun k => impl_puny.l0.eq_2 _ _ _ _ _ _) (ev_neg (by omega) (ev_neg c ?_))
        exact Ev.step (fun k => impl_puny.j1.eq_2 _ _ _ _) f1
      · refine Ev.step (fun k => spec_Puny.l0.eq_2 _ _ _ _) (ev_neg (by omega) (ev_neg c ?_))
        exact Ev.step (fun k => spec_Puny.j1.eq_2 _ _ _ _) f2
  obtain ⟨F, f1, f2⟩ := fin
  have key : ∀ d i : Nat, i + d = w.length → Ev (fun k => impl_puny.l0 k w (plainOf (w.take i)) w (w.length : Int) (i : Int)) (strOfNums F) ∧ Ev (fun k => spec_Puny.l0 k w (plainOf (w.take i)) (i : Int)) (strOfNums F, true) := by
    intro d
    induction d with
    | zero =>
      intro i hi
      obtain rfl : i = w.length := by omega
      rw [List.take_length]
      exact ⟨f1, f2⟩
    | succ d ih =>
      intro i hi
      obtain ⟨g1, g2⟩ := ih (i + 1) (by omega)
      have hm := hr _ (rd_mem (xs := w) (i := (i : Int)) (by omega) (by omega))
      have ei : Aside0 (wrap64 ((i : Int) + 1) = ((i + 1 : Nat) : Int)) := ⟨by unfold wrap64; omega⟩
      have hpi := hpl i (by omega)
      rw [plain_take w i (by omega)] at g1 g2
      by_cases c : rd w (i : Int) < 128
      · rw [if_pos c] at g1 g2
        refine ⟨?_, ?_⟩
        · refine Ev.step (fun k => impl_puny.l0.eq_2 _ _ _ _ _ _) (ev_pos (by omega) (ev_pos (by omega) (ev_pos (by omega) (ev_pos c (ev_pos (by omega) ?_)))))
          rw [ei.out, show rd w (i : Int) % 256 = rd w (i : Int) by omega]; exact g1
        · refine Ev.step (fun k => spec_Puny.l0.eq_2 _ _ _ _) (ev_pos (by omega) (ev_pos (by omega) (ev_pos c (ev_pos (by omega) ?_))))
          rw [ei.out, show rd w (i : Int) % 256 = rd w (i : Int) by omega]; exact g2
      · rw [if_neg c, List.append_nil] at g1 g2
        refine ⟨?_, ?_⟩
        · refine Ev.step (fun k => impl_puny.l0.eq_2 _ _ _ _ _ _) (ev_pos (by omega) (ev_pos (by omega) (ev_pos (by omega) (ev_neg c ?_))))
          rw [ei.out]; exact g1
        · refine Ev.step (fun k => spec_Puny.l0.eq_2 _ _ _ _) (ev_pos (by omega) (ev_pos (by omega) (ev_neg c ?_)))
          rw [ei.out]; exact g2
  exact ⟨F, key w.length 0 (by omega)⟩
theorem allWithin_ev (l : List Int) (a b : Int) (hl : l.length ≤ 1099511627776) : Ev (fun k => impl_allWithin.f k l a b) (l.all (fun x => decide (a ≤ x ∧ x ≤ b))) := by
  rw [← all_range_rd, ← Bool.and_true (List.all _ _)]
  refine all_ev (L := fun k i => impl_allWithin.l0 k a b l (l.length : Int) i) l.length ?_ ?_ ?_
  · intro i hi hp r h
    refine Ev.step (fun k => impl_allWithin.l0.eq_2 _ _ _ _ _ _) (ev_pos (by omega) (ev_pos (by omega) (ev_pos (by omega) (ev_bindc (within_eq _ _ _) (ev_pos hp ?_)))))
    rw [w64 (by omega) (by omega)]; exact h
  · intro i hi hp
    exact Ev.step (fun k => impl_allWithin.l0.eq_2 _ _ _ _ _ _) (ev_pos (by omega) (ev_pos (by omega) (ev_pos (by omega) (ev_bindc (within_eq _ _ _) (ev_neg (by rw [hp]; simp) (Ev.now _))))))
  · exact Ev.step (fun k => impl_allWithin.l0.eq_2 _ _ _ _ _ _) (ev_neg (by omega) (Ev.now _))
def wordOk (w : List Int) : Bool := w.all (fun x => decide (0 ≤ x ∧ x ≤ 1114111)) && decide (1 ≤ (w.length : Int) ∧ (w.length : Int) ≤ 20)
theorem isWord_ev (w : List Int) (hl : w.length ≤ 1048576) : Ev (fun k => impl_isWord.f k w) (wordOk w) := by
  unfold wordOk
  refine ev_bindc (within_eq _ _ _) ?_
  by_cases h : 1 ≤ (w.length : Int) ∧ (w.length : Int) ≤ 20
  · rw [decide_eq_true h, Bool.and_true]
    exact ev_pos rfl (Ev.bind (allWithin_ev w 0 1114111 (by omega)) (Ev.now _))
  · rw [decide_eq_false h, Bool.and_false]
    exact ev_neg (by simp) (Ev.now _)
theorem l8WordOk_ev (w : List Int) (hl : w.length ≤ 1048576) : Ev (fun k => spec_l8WordOk.f k w) (wordOk w) := by
  unfold wordOk
  rw [← all_range_rd]
  refine all_ev (L := fun k i => spec_l8WordOk.l0 k w i) w.length ?_ ?_ ?_
  · intro i hi hp r h
    refine Ev.step (fun k => spec_l8WordOk.l0.eq_2 _ _ _) (ev_pos (by omega) (ev_pos (by omega) (ev_bindc (l1In_eq _ _ _) (ev_pos hp ?_))))
    rw [w64 (by omega) (by omega)]; exact h
  · intro i hi hp
    exact Ev.step (fun k => spec_l8WordOk.l0.eq_2 _ _ _) (ev_pos (by omega) (ev_pos (by omega) (ev_bindc (l1In_eq _ _ _) (ev_neg (by rw [hp]; simp) (Ev.now _)))))
  · exact Ev.step (fun k => spec_l8WordOk.l0.eq_2 _ _ _) (ev_neg (by omega) (ev_bindc (l1In_eq _ _ _) (Ev.now _)))
theorem wordOk_parts {w : List Int} (h : wordOk w = true) : w.length ≤ 20 ∧ 1 ≤ w.length ∧ ∀ x ∈ w, 0 ≤ x ∧ x ≤ 1114111 := by
  unfold wordOk at h
  simp only [Bool.and_eq_true, List.all_eq_true, decide_eq_true_eq] at h
  exact ⟨by omega, by omega, h.1⟩
/-! ### ReadPuny -/
def dval (b : Int) : Int := if 97 ≤ b ∧ b ≤ 122 then b - 97 else if 48 ≤ b ∧ b ≤ 57 then b - 22 else -1
theorem dval_range (b : Int) : -1 ≤ dval b ∧ dval b ≤ 35 := by unfold dval; split <;> (try split) <;> omega
theorem digitOf_ev (b : Int) (h0 : 0 ≤ b) (h1 : b ≤ 255) : Ev (fun k => impl_digitOf.f k b) (dval b) := by
  have no : ¬ (97 ≤ b ∧ b ≤ 122) → Ev (fun k => impl_digitOf.j0 k b false) (dval b) := by
    intro c
    refine Ev.step (fun k => impl_digitOf.j0.eq_2 _ _ _) (ev_neg (by simp) ?_)
    unfold dval
    rw [if_neg c]
    by_cases c2 : 48 ≤ b ∧ b ≤ 57
    · rw [if_pos c2]
      refine ev_bindc (show impl_isDigit.f b = some true by unfold impl_isDigit.f; rw [if_pos (by omega), decide_eq_true c2.2]) (ev_pos rfl ?_)
      rw [show (b - 48) % 256 + 26 = b - 22 by omega]
      exact Ev.now _
    · rw [if_neg c2]
      refine ev_bindc (show impl_isDigit.f b = some false by
        unfold impl_isDigit.f
        by_cases d : b ≥ 48
        · rw [if_pos d, decide_eq_false (by omega)]
        · rw [if_neg d]) (ev_neg (by simp) (Ev.now _))
  by_cases c : b ≥ 97
  · refine ev_pos c ?_
    by_cases c2 : b ≤ 122
    · rw [decide_eq_true c2]
      refine Ev.step (fun k => impl_digitOf.j0.eq_2 _ _ _) (ev_pos rfl ?_)
      unfold dval
      rw [if_pos ⟨c, c2⟩, show (b - 97) % 256 = b - 97 by omega]
      exact Ev.now _
    · rw [decide_eq_false c2]
      exact no (by omega)
  · exact ev_neg c (no (by omega))
/-- the digits from a place on: what they come to, and the place behind them -/
def dig (s : ByteArray) (bias : Int) : Nat → Nat → Int → Int → Int → Option (Nat × Int)
  | 0, _, _, _, _ => none
  | r + 1, p, i, w, K => if dval (bt s p) < 0 ∨ i > 1099511627776 ∨ w > 1099511627776 then none else
      if dval (bt s p) < thr K bias then some (p + 1, i + dval (bt s p) * w) else dig s bias r (p + 1) (i + dval (bt s p) * w) (w * (36 - thr K bias)) (K + 36)
theorem thr_in (K b : Int) : 1 ≤ thr K b ∧ thr K b ≤ 26 := thr_range K b
theorem dig_some (s : ByteArray) (bias : Int) : ∀ (r p : Nat) (i w K : Int) (p' : Nat) (i' : Int), 0 ≤ i → 0 ≤ w → dig s bias r p i w K = some (p', i') → p < p' ∧ p' ≤ p + r ∧ i ≤ i' ∧ i' ≤ 39582418599936
  | 0, _, _, _, _, _, _, _, _, h => by cases h
  | r + 1, p, i, w, K, p', i', h0, h1, h => by
    rw [dig] at h
    by_cases c : dval (bt s p) < 0 ∨ i > 1099511627776 ∨ w > 1099511627776
    · rw [if_pos c] at h; cases h
    · rw [if_neg c] at h
      have hd := dval_range (bt s p)
      have ht := thr_in K bias
      have m0 : 0 ≤ dval (bt s p) * w := Int.mul_nonneg (by omega) h1
      have m1 : dval (bt s p) * w ≤ 35 * 1099511627776 := Int.mul_le_mul (by omega) (by omega) h1 (by omega)
      by_cases c2 : dval (bt s p) < thr K bias
      · rw [if_pos c2] at h
        injection h with h
        injection h with h2 h3
        omega
      · rw [if_neg c2] at h
        obtain ⟨a, b, e, f⟩ := dig_some s bias r (p + 1) _ _ _ p' i' (by omega) (Int.mul_nonneg h1 (by omega)) h
        exact ⟨by omega, by omega, by omega, f⟩
def contI (k : Nat) (x0 : ByteArray) (x4 : List Int) (x5 : ByteArray) (x8 x9 x10 x11 x12 : Int) : Option (List Int × Bool) := ((impl_adapted.f k (wrap64 (x10 - x12)) (wrap64 ((x4.length : Int) + 1)) ((x4.length : Int) == x8)).bind fun t152 => (if (wrap64 ((x4.length : Int) + 1)) = 0 then (none) else ((Hand.slices_Insert_int.f x4 (Int.tmod x10 (wrap64 ((x4.length : Int) + 1))) (([wrap64 (x9 + (wrap64 (Int.tdiv x10 (wrap64 ((x4.length : Int) + 1)))))] : List Int))).bind fun t156 => (impl_ReadPuny.l1 k x0 t156 x5 x8 (wrap64 (x9 + (wrap64 (Int.tdiv x10 (wrap64 ((x4.length : Int) + 1)))))) (wrap64 ((Int.tmod x10 (wrap64 ((x4.length : Int) + 1))) + 1)) t152))))
theorem ext_size (s : ByteArray) (p : Nat) (h : p ≤ s.size) : (s.extract p s.size).size = s.size - p := by
  rw [ByteArray.size_extract]
  omega
theorem ext_next (s : ByteArray) (p : Nat) (h : p < s.size) : (s.extract p s.size).extract 1 (s.extract p s.size).size = s.extract (p + 1) s.size := by
  rw [ext_size s p (by omega)]
  apply ByteArray.ext
  simp only [ByteArray.data_extract, Array.extract_extract]
  congr 1
  have : s.size = s.data.size := rfl
  omega
theorem ext_bt (s : ByteArray) (p : Nat) (h : p < s.size) : bt (s.extract p s.size) 0 = bt s (p : Int) := by
  have e := ext_size s p (by omega)
  unfold bt
  rw [dif_pos (by show (0 : Int).toNat < _; rw [e]; simp; omega), dif_pos (by simpa using h)]
  simp [ByteArray.getElem_extract]
theorem ext_nil (s : ByteArray) (p : Nat) (h : p ≤ s.size) : (s.extract p s.size).toList = ([] : List UInt8) ↔ p = s.size := by
  have e := ext_size s p h
  have e2 : ∀ b : ByteArray, b.toList.length = b.size := fun b => by
    rw [Lib.toList_data, Array.length_toList]
    rfl
  constructor
  · intro g
    have := e2 (s.extract p s.size)
    rw [g] at this
    simp at this
    omega
  · intro g
    apply List.eq_nil_of_length_eq_zero
    rw [e2]
    omega
theorem dig_impl (s : ByteArray) (word : List Int) (basic n bias old : Int) (hs : s.size ≤ 60) : ∀ (r p : Nat) (i w K : Int), p + r = s.size → 0 ≤ i → i ≤ 39582418599936 → 0 ≤ w → w ≤ 39582418599936 → 0 ≤ K → K + 36 * r ≤ 5000 →
    (dig s bias r p i w K = none → Ev (fun k => impl_ReadPuny.l2 k s word (s.extract p s.size) basic n i bias old w K) ([], false)) ∧
    (∀ p' i' R, dig s bias r p i w K = some (p', i') → Ev (fun k => contI k s word (s.extract p' s.size) basic n i' bias old) R → Ev (fun k => impl_ReadPuny.l2 k s word (s.extract p s.size) basic n i bias old w K) R) := by
  intro r
  have no : ∀ (rest : ByteArray) (i w K : Int), Ev (fun k => impl_ReadPuny.j5 k s word rest basic n i bias old w K true) ([], false) := fun rest i w K => Ev.step (fun k => impl_ReadPuny.j5.eq_2 _ _ _ _ _ _ _ _ _ _ _ _) (ev_pos rfl (Ev.now _))
  induction r with
  | zero =>
    intro p i w K hp _ _ _ _ _ _
    exact ⟨fun _ => Ev.step (fun k => impl_ReadPuny.l2.eq_2 _ _ _ _ _ _ _ _ _ _ _) (ev_pos ((ext_nil s p (by omega)).2 (by omega)) (no _ _ _ _)), fun p' i' R h => by cases h⟩
  | succ r ih =>
    intro p i w K hp h0 h1 h2 h3 h4 h5
    have hb := bt_range s p
    have hv := digitOf_ev (bt s p) hb.1 hb.2
    have hd := dval_range (bt s p)
    have ht := thr_in K bias
    have hsz := ext_size s p (by omega)
    have hbt := ext_bt s p (by omega)
    have hnx := ext_next s p (by omega)
    have hnil : ¬ (s.extract p s.size).toList = ([] : List UInt8) := fun h => by have := (ext_nil s p (by omega)).1 h; omega
    have stop : (dval (bt s p) < 0 ∨ i > 1099511627776 ∨ w > 1099511627776) → Ev (fun k => impl_ReadPuny.l2 k s word (s.extract p s.size) basic n i bias old w K) ([], false) := by
      intro c
      refine Ev.step (fun k => impl_ReadPuny.l2.eq_2 _ _ _ _ _ _ _ _ _ _ _) (ev_neg hnil (ev_pos (by omega) ?_))
      rw [hbt]
      refine Ev.bind hv ?_
      by_cases c1 : dval (bt s p) < 0
      · exact ev_pos c1 (no _ _ _ _)
      refine ev_neg c1 ?_
      by_cases c2 : i > 1099511627776
      · exact ev_pos c2 (no _ _ _ _)
      refine ev_neg c2 ?_
      rw [decide_eq_true (show w > 1099511627776 by omega)]
      exact no _ _ _ _
    rw [dig]
    by_cases c : dval (bt s p) < 0 ∨ i > 1099511627776 ∨ w > 1099511627776
    · rw [if_pos c]
      exact ⟨fun _ => stop c, fun p' i' R h => by cases h⟩
    · rw [if_neg c]
      have m0 : 0 ≤ dval (bt s p) * w := Int.mul_nonneg (by omega) h2
      have m1 : dval (bt s p) * w ≤ 35 * 1099511627776 := Int.mul_le_mul (by omega) (by omega) h2 (by omega)
      have m2 : 0 ≤ w * (36 - thr K bias) := Int.mul_nonneg h2 (by omega)
      have m3 : w * (36 - thr K bias) ≤ 1099511627776 * 35 := Int.mul_le_mul (by omega) (by omega) (by omega) (by omega)
      have e1 : Aside0 (wrap64 (i + wrap64 (dval (bt s p) * w)) = i + dval (bt s p) * w) := ⟨by rw [w64 (x := dval (bt s p) * w) (by omega) (by omega), w64 (by omega) (by omega)]⟩
      have e2 : Aside0 (wrap64 (w * wrap64 (36 - thr K bias)) = w * (36 - thr K bias)) := ⟨by rw [w64 (x := 36 - thr K bias) (by omega) (by omega), w64 (by omega) (by omega)]⟩
      have e3 : Aside0 (wrap64 (K + 36) = K + 36) := ⟨w64 (by omega) (by omega)⟩
      have go : ∀ R, Ev (fun k => if dval (bt s p) < thr K bias then contI k s word (s.extract (p + 1) s.size) basic n (i + dval (bt s p) * w) bias old else impl_ReadPuny.l2 k s word (s.extract (p + 1) s.size) basic n (i + dval (bt s p) * w) bias old (w * (36 - thr K bias)) (K + 36)) R → Ev (fun k => impl_ReadPuny.l2 k s word (s.extract p s.size) basic n i bias old w K) R := by
        intro R h
        refine Ev.step (fun k => impl_ReadPuny.l2.eq_2 _ _ _ _ _ _ _ _ _ _ _) (ev_neg hnil (ev_pos (by omega) ?_))
        rw [hbt]
        refine Ev.bind hv (ev_neg (by omega) (ev_neg (by omega) ?_))
        rw [decide_eq_false (show ¬ w > 1099511627776 by omega)]
        refine Ev.step (fun k => impl_ReadPuny.j5.eq_2 _ _ _ _ _ _ _ _ _ _ _ _) (ev_neg (by simp) (ev_pos (by omega) ?_))
        rw [hbt, hnx]
        refine Ev.bind hv (ev_bindc (threshold_eq _ _) (ev_pos (by omega) ?_))
        simp only [e1.out, e2.out, e3.out]
        exact h
      by_cases c2 : dval (bt s p) < thr K bias
      · rw [if_pos c2]
        refine ⟨fun h => (by cases h), fun p' i' R h hR => ?_⟩
        injection h with h
        injection h with g1 g2
        subst g1 g2
        exact go R (ev_pos c2 hR)
      · rw [if_neg c2]
        obtain ⟨a, b⟩ := ih (p + 1) (i + dval (bt s p) * w) (w * (36 - thr K bias)) (K + 36) (by omega) (by omega) (by omega) m2 (by omega) (by omega) (by omega)
        exact ⟨fun h => go _ (ev_neg c2 (a h)), fun p' i' R h hR => go _ (ev_neg c2 (b p' i' R h hR))⟩
theorem insert_some (word : List Int) (i n : Int) (h0 : 0 ≤ i) (h1 : i ≤ (word.length : Int)) (h2 : word.length ≤ 1000) : Hand.slices_Insert_int.f word i [n] = some (word.take i.toNat ++ [n] ++ word.drop i.toNat) := by
  unfold Hand.slices_Insert_int.f
  rw [if_pos h0, if_pos h1, if_pos (show [n].length = 1 from rfl), if_pos (by omega)]
/-- what a group of digits leads to, in both programs: b the new bias, q and m what the place parts into -/
theorem cont_I (s : ByteArray) (word : List Int) (rest : ByteArray) (basic n i bias old : Int) (hl : word.length ≤ 60) (ho : 0 ≤ old) (hi : old ≤ i) (hi1 : i ≤ 39582418599936) (hn : 0 ≤ n) (hn1 : n ≤ 1125899906842624) :
    ∃ b, 0 ≤ b ∧ b ≤ 360 ∧ Ev (fun k => impl_adapted.f k (i - old) ((word.length : Int) + 1) ((word.length : Int) == basic)) b ∧
      ∀ R, Ev (fun k => impl_ReadPuny.l1 k s (word.take (i % ((word.length : Int) + 1)).toNat ++ [n + i / ((word.length : Int) + 1)] ++ word.drop (i % ((word.length : Int) + 1)).toNat) rest basic (n + i / ((word.length : Int) + 1)) (i % ((word.length : Int) + 1) + 1) b) R →
        Ev (fun k => contI k s word rest basic n i bias old) R := by
  obtain ⟨b, b0, b1, hb⟩ := adapted_ev (i - old) ((word.length : Int) + 1) ((word.length : Int) == basic) (by omega) (by omega) (by omega) (by omega)
  refine ⟨b, b0, b1, hb, fun R h => ?_⟩
  have q0 : 0 ≤ i / ((word.length : Int) + 1) := Int.ediv_nonneg (by omega) (by omega)
  have q1 : i / ((word.length : Int) + 1) ≤ i := Int.ediv_le_self _ (by omega)
  have r0 : 0 ≤ i % ((word.length : Int) + 1) := Int.emod_nonneg _ (by omega)
  have r1 : i % ((word.length : Int) + 1) < (word.length : Int) + 1 := Int.emod_lt_of_pos _ (by omega)
  have e1 : Aside0 (wrap64 (i - old) = i - old) := ⟨w64 (by omega) (by omega)⟩
  have e2 : Aside0 (wrap64 ((word.length : Int) + 1) = (word.length : Int) + 1) := ⟨w64 (by omega) (by omega)⟩
  have e3 : Aside0 (Int.tmod i ((word.length : Int) + 1) = i % ((word.length : Int) + 1)) := ⟨Int.tmod_eq_emod_of_nonneg (by omega)⟩
  have e4 : Aside0 (Int.tdiv i ((word.length : Int) + 1) = i / ((word.length : Int) + 1)) := ⟨Int.tdiv_eq_ediv_of_nonneg (by omega)⟩
  have e5 : Aside0 (wrap64 (i / ((word.length : Int) + 1)) = i / ((word.length : Int) + 1)) := ⟨w64 (by omega) (by omega)⟩
  have e6 : Aside0 (wrap64 (n + i / ((word.length : Int) + 1)) = n + i / ((word.length : Int) + 1)) := ⟨w64 (by omega) (by omega)⟩
  have e7 : Aside0 (wrap64 (i % ((word.length : Int) + 1) + 1) = i % ((word.length : Int) + 1) + 1) := ⟨w64 (by omega) (by omega)⟩
  unfold contI
  simp only [e1.out, e2.out, e3.out, e4.out, e5.out, e6.out, e7.out]
  exact Ev.bind hb (ev_neg (by omega) (ev_bindc (insert_some word _ _ r0 (by omega) (by omega)) h))
theorem end_I (s : ByteArray) (word : List Int) (rest : ByteArray) (basic n i bias : Int) (hl : word.length ≤ 200) (h : wordOk word = false) : Ev (fun k => impl_ReadPuny.j3 k s word rest basic n i bias false) ([], false) :=
  Ev.step (fun k => impl_ReadPuny.j3.eq_2 _ _ _ _ _ _ _ _ _) (ev_neg (by simp) (Ev.bind (isWord_ev word (by omega)) (ev_neg (by rw [h]; simp) (Ev.now _))))
/-- a word that is no word, however it goes on -/
def Doomed (w : List Int) : Prop := w.length > 20 ∨ ∃ x ∈ w, x > 1114111
theorem doomed_no {w : List Int} (h : Doomed w) : wordOk w = false := by
  cases c : wordOk w with
  | false => rfl
  | true =>
    obtain ⟨h1, _, h2⟩ := wordOk_parts c
    rcases h with h | ⟨x, hx, h⟩
    · omega
    · have := h2 x hx
      omega
theorem doomed_insert {w : List Int} (h : Doomed w) (m : Nat) (v : Int) : Doomed (w.take m ++ [v] ++ w.drop m) := by
  rcases h with h | ⟨x, hx, h⟩
  · left
    simp
    omega
  · right
    refine ⟨x, ?_, h⟩
    rw [← List.take_append_drop m w] at hx
    rcases List.mem_append.1 hx with g | g
    · exact List.mem_append_left _ (List.mem_append_left _ g)
    · exact List.mem_append_right _ g
theorem place_range (i : Int) (m : Nat) (h : 0 ≤ i) : 0 ≤ i % ((m : Int) + 1) ∧ i % ((m : Int) + 1) + 1 ≤ (m : Int) + 1 ∧ 0 ≤ i / ((m : Int) + 1) ∧ i / ((m : Int) + 1) ≤ i := by
  have := Int.emod_nonneg i (show (m : Int) + 1 ≠ 0 by omega)
  have := Int.emod_lt_of_pos i (show 0 < (m : Int) + 1 by omega)
  exact ⟨by omega, by omega, Int.ediv_nonneg h (by omega), Int.ediv_le_self _ h⟩
theorem doomed_I (s : ByteArray) (hs : s.size ≤ 60) (basic : Int) : ∀ (g p : Nat) (word : List Int) (n i bias : Int), s.size - p ≤ g → p ≤ s.size → Doomed word → word.length ≤ 60 → 0 ≤ n → n ≤ 1200000 + 39582418599936 * word.length → 0 ≤ i → i ≤ 100 →
    Ev (fun k => impl_ReadPuny.l1 k s word (s.extract p s.size) basic n i bias) ([], false) := by
  intro g
  induction g with
  | zero =>
    intro p word n i bias hg hp hd hl n0 n1 i0 i1
    exact Ev.step (fun k => impl_ReadPuny.l1.eq_2 _ _ _ _ _ _ _ _) (ev_pos ((ext_nil s p hp).2 (by omega)) (end_I s word _ basic n i bias (by omega) (doomed_no hd)))
  | succ g ih =>
    intro p word n i bias hg hp hd hl n0 n1 i0 i1
    refine Ev.step (fun k => impl_ReadPuny.l1.eq_2 _ _ _ _ _ _ _ _) ?_
    by_cases c : (s.extract p s.size).toList = ([] : List UInt8)
    · exact ev_pos c (end_I s word _ basic n i bias (by omega) (doomed_no hd))
    · refine ev_neg c ?_
      have hp2 : p < s.size := Nat.lt_of_le_of_ne hp (fun h => c ((ext_nil s p hp).2 h))
      by_cases c2 : (word.length : Int) ≤ 20
      · rw [decide_eq_true c2]
        refine Ev.step (fun k => impl_ReadPuny.j3.eq_2 _ _ _ _ _ _ _ _ _) (ev_pos rfl ?_)
        obtain ⟨a, b⟩ := dig_impl s word basic n bias i hs (s.size - p) p i 1 36 (by omega) i0 (by omega) (by omega) (by omega) (by omega) (by omega)
        cases e : dig s bias (s.size - p) p i 1 36 with
        | none => exact a e
        | some z =>
          obtain ⟨p', i'⟩ := z
          obtain ⟨d1, d2, d3, d4⟩ := dig_some s bias _ _ _ _ _ _ _ i0 (by omega) e
          obtain ⟨r0, r1, q0, q1⟩ := place_range i' word.length (by omega)
          obtain ⟨b', b0, b1, _, k⟩ := cont_I s word (s.extract p' s.size) basic n i' bias i (by omega) i0 d3 d4 n0 (by omega)
          refine b p' i' _ e (k _ (ih p' _ _ _ b' (by omega) (by omega) (doomed_insert hd _ _) (by simp; omega) (by omega) (by simp; omega) (by omega) (by omega)))
      · rw [decide_eq_false c2]
        exact end_I s word _ basic n i bias (by omega) (doomed_no hd)
/-! ### ReadPuny: how both begin -/
structure IsLast (s : ByteArray) (n : Nat) (r : Int) : Prop where
  lo : -1 ≤ r
  hi : r < (n : Int)
  at' : 0 ≤ r → bt s r = 45
  no : ∀ j : Nat, r < (j : Int) → j < n → bt s (j : Int) ≠ 45
theorem last_uniq {s : ByteArray} {n : Nat} {r r' : Int} (h : IsLast s n r) (h' : IsLast s n r') : r = r' := by
  have a := h.lo
  have b := h.hi
  have a' := h'.lo
  have b' := h'.hi
  rcases Int.lt_trichotomy r r' with c | c | c
  · exfalso
    have := h.no r'.toNat (by omega) (by omega)
    rw [Int.toNat_of_nonneg (by omega)] at this
    exact this (h'.at' (by omega))
  · exact c
  · exfalso
    have := h'.no r.toNat (by omega) (by omega)
    rw [Int.toNat_of_nonneg (by omega)] at this
    exact this (h.at' (by omega))
theorem last_impl (s : ByteArray) (hs : s.size ≤ 60) : ∃ r, IsLast s s.size r ∧ Ev (fun k => strings_LastIndexByte.f k s 45) r := by
  have key : ∀ d : Nat, d ≤ s.size → (∀ j : Nat, d ≤ j → j < s.size → bt s (j : Int) ≠ 45) → ∃ r, IsLast s s.size r ∧ Ev (fun k => bytealg_LastIndexByteString.l0 k s 45 ((d : Int) - 1)) r := by
    intro d
    induction d with
    | zero =>
      intro _ h
      exact ⟨-1, ⟨by omega, by omega, by omega, fun j _ hj => h j (by omega) hj⟩, Ev.step (fun k => bytealg_LastIndexByteString.l0.eq_2 _ _ _ _) (ev_neg (by omega) (Ev.now _))⟩
    | succ d ih =>
      intro hd h
      rw [show ((d + 1 : Nat) : Int) - 1 = (d : Int) by omega]
      by_cases c : bt s (d : Int) = 45
      · exact ⟨d, ⟨by omega, by omega, fun _ => c, fun j hj hj2 => h j (by omega) hj2⟩, Ev.step (fun k => bytealg_LastIndexByteString.l0.eq_2 _ _ _ _) (ev_pos (by omega) (ev_pos (by omega) (ev_pos (by omega) (ev_pos c (Ev.now _)))))⟩
      · obtain ⟨r, h1, h2⟩ := ih (by omega) (fun j hj hj2 => by
          by_cases e : j = d
          · rw [e]; exact c
          · exact h j (by omega) hj2)
        refine ⟨r, h1, Ev.step (fun k => bytealg_LastIndexByteString.l0.eq_2 _ _ _ _) (ev_pos (by omega) (ev_pos (by omega) (ev_pos (by omega) (ev_neg c ?_))))⟩
        rw [w64 (by omega) (by omega)]
        exact h2
  obtain ⟨r, h1, h2⟩ := key s.size (Nat.le_refl _) (fun j h h' => by omega)
  refine ⟨r, h1, Ev.bind ?_ (Ev.now _)⟩
  show Ev (fun k => bytealg_LastIndexByteString.l0 k s 45 (wrap64 ((s.size : Int) - 1))) r
  rw [w64 (by omega) (by omega)]
  exact h2
def bts (s : ByteArray) (n : Nat) : List Int := (List.range n).map (fun j : Nat => bt s (j : Int))
theorem bts_succ (s : ByteArray) (n : Nat) : bts s (n + 1) = bts s n ++ [bt s (n : Int)] := by simp [bts, List.range_succ]
theorem bts_length (s : ByteArray) (n : Nat) : (bts s n).length = n := by simp [bts]
theorem plain_impl (s : ByteArray) (hs : s.size ≤ 60) (n : Nat) (hn : n < s.size) (rest : ByteArray) (R : List Int × Bool) (h : Ev (fun k => impl_ReadPuny.l1 k s (bts s n) rest (n : Int) 128 0 72) R) : ∀ (d i : Nat), i + d = n → Ev (fun k => impl_ReadPuny.l0 k s (bts s i) rest (n : Int) (i : Int)) R := by
  intro d
  induction d with
  | zero =>
    intro i hi
    obtain rfl : i = n := by omega
    refine Ev.step (fun k => impl_ReadPuny.l0.eq_2 _ _ _ _ _ _) (ev_neg (by omega) (Ev.step (fun k => impl_ReadPuny.j1.eq_2 _ _ _ _) ?_))
    rw [bts_length]
    exact h
  | succ d ih =>
    intro i hi
    have hb := bt_range s (i : Int)
    refine Ev.step (fun k => impl_ReadPuny.l0.eq_2 _ _ _ _ _ _) (ev_pos (by omega) (ev_pos (by omega) (ev_pos (by omega) (ev_pos (by rw [bts_length]; omega) ?_))))
    rw [w64 (x := bt s (i : Int)) (by omega) (by omega), w64 (by omega) (by omega), ← bts_succ]
    exact ih (i + 1) (by omega)
theorem ext_all (s : ByteArray) : s.extract 0 s.size = s := by
  apply ByteArray.ext
  simp
/-- from the state behind the plain ones on -/
theorem impl_start (s : ByteArray) (hs : s.size ≤ 60) (r : Int) (hr : IsLast s s.size r) (he : Ev (fun k => strings_LastIndexByte.f k s 45) r) (R : List Int × Bool)
    (h : Ev (fun k => impl_ReadPuny.l1 k s (bts s r.toNat) (s.extract (r + 1).toNat s.size) (r.toNat : Int) 128 0 72) R) : Ev (fun k => impl_ReadPuny.f k s) R := by
  have a := hr.lo
  have b := hr.hi
  refine ev_neg (by omega) (Ev.bind (Ev.now _) (Ev.bind he ?_))
  by_cases c : r ≥ 0
  · refine ev_pos c ?_
    rw [w64 (x := r + 1) (by omega) (by omega)]
    refine ev_pos (by omega) (ev_pos (by omega) ?_)
    have := plain_impl s hs r.toNat (by omega) _ R h r.toNat 0 (by omega)
    rw [Int.toNat_of_nonneg c] at this
    exact this
  · obtain rfl : r = -1 := by omega
    refine ev_neg c (Ev.step (fun k => impl_ReadPuny.j1.eq_2 _ _ _ _) ?_)
    rw [show ((-1 : Int) + 1).toNat = 0 from rfl, ext_all] at h
    exact h
/-! ### what is written is read again -/
theorem mem_getD {l : List Int} {j : Nat} (h : j < l.length) : l.getD j 0 ∈ l := by
  rw [List.getD_eq_getElem?_getD, List.getElem?_eq_getElem h]
  exact List.getElem_mem h
theorem dval_dgt (d : Int) (h0 : 0 ≤ d) (h1 : d < 36) : dval (dgt d) = d ∧ 48 ≤ dgt d ∧ dgt d ≤ 122 := by
  unfold dgt dval
  split <;> split <;> (try split) <;> omega
theorem told_dec (b : Int) : ∀ (n : Nat) (q K : Int), 0 ≤ q → q < 2 ^ n → n ≤ 40 → 36 ≤ K → K + 36 * n ≤ 2000 → ∃ D : List Int, D.length ≤ n + 1 ∧ 0 < D.length ∧ (∀ x ∈ D, 48 ≤ x ∧ x ≤ 122) ∧
    (∀ x5 : List Int, x5.length + n ≤ 10000 → Ev (fun k => impl_told.l0 k b x5 q K) (strOfNums (x5 ++ D))) ∧
    (∀ (s : ByteArray) (r p : Nat) (i w : Int), D.length ≤ r → (∀ j : Nat, j < D.length → bt s ((p + j : Nat) : Int) = D.getD j 0) → 0 ≤ i → i + q * w ≤ 1099511627776 → 0 < w → w ≤ 1099511627776 → q * w ≤ 1073741824 →
      dig s b r p i w K = some (p + D.length, i + q * w)) := by
  have stop : ∀ (n : Nat) (q K : Int), 0 ≤ q → q < thr K b → ∃ D : List Int, D.length ≤ n + 1 ∧ 0 < D.length ∧ (∀ x ∈ D, 48 ≤ x ∧ x ≤ 122) ∧
    (∀ x5 : List Int, x5.length + n ≤ 10000 → Ev (fun k => impl_told.l0 k b x5 q K) (strOfNums (x5 ++ D))) ∧
    (∀ (s : ByteArray) (r p : Nat) (i w : Int), D.length ≤ r → (∀ j : Nat, j < D.length → bt s ((p + j : Nat) : Int) = D.getD j 0) → 0 ≤ i → i + q * w ≤ 1099511627776 → 0 < w → w ≤ 1099511627776 → q * w ≤ 1073741824 →
      dig s b r p i w K = some (p + D.length, i + q * w)) := by
    intro n q K h0 h1
    have ht := thr_in K b
    have hd := dval_dgt q h0 (by omega)
    refine ⟨[dgt q], by simp, by simp, by simp [hd.2.1, hd.2.2], ?_, ?_⟩
    · intro x5 hx
      have ht := thr_range K b
      have h1' := h1
      unfold thr at h1'
      refine Ev.step (fun k => impl_told.l0.eq_2 _ _ _ _ _) (ev_bindc (threshold_eq K b) (ev_pos h1' (ev_pos h0 (ev_pos (by omega) (ev_pos (by omega) ?_)))))
      rw [digit_impl q h0 (by omega)]; exact Ev.now _
    · intro s r p i w hr hb hi hiw hw0 hw1 hq
      obtain ⟨r, rfl⟩ : ∃ m, r = m + 1 := ⟨r - 1, by simp at hr; omega⟩
      have b0 := hb 0 (by simp)
      rw [Nat.add_zero] at b0
      have hqw : 0 ≤ q * w := Int.mul_nonneg h0 (by omega)
      rw [dig, b0, show ([dgt q] : List Int).getD 0 0 = dgt q from rfl, hd.1, if_neg (by omega), if_pos h1]
      rfl
  intro n
  induction n with
  | zero =>
    intro q K h0 h1 _ h2 h3
    have ht := thr_in K b
    exact stop 0 q K h0 (by omega)
  | succ n ih =>
    intro q K h0 h1 hn h2 h3
    by_cases c : q < thr K b
    · obtain ⟨D, a, d, e⟩ := stop (n + 1) q K h0 c
      exact ⟨D, a, d, e⟩
    · have ht := thr_range K b
      have hT : thr K b = mn 26 (mx 1 (wrap64 (K - b))) := rfl
      rw [← hT] at ht
      have hb : q < 2 ^ 62 := by have := pow2_le (show n + 1 ≤ 62 by omega); omega
      have m0 : 0 ≤ (q - thr K b) % (36 - thr K b) := Int.emod_nonneg _ (by omega)
      have m1 : (q - thr K b) % (36 - thr K b) < 36 - thr K b := Int.emod_lt_of_pos _ (by omega)
      have d0 : 0 ≤ (q - thr K b) / (36 - thr K b) := Int.ediv_nonneg (by omega) (by omega)
      have d1 : (q - thr K b) / (36 - thr K b) < 2 ^ n := by
        refine Int.ediv_lt_of_lt_mul (by omega) ?_
        have h2n : (2 : Int) ^ (n + 1) = 2 ^ n * 2 := Int.pow_succ ..
        have hp : (0 : Int) < 2 ^ n := Int.pow_pos (by decide)
        have : (2 : Int) ^ n * 2 ≤ 2 ^ n * (36 - thr K b) := Int.mul_le_mul_of_nonneg_left (by omega) (by omega)
        omega
      have hdm := Int.mul_ediv_add_emod (q - thr K b) (36 - thr K b)
      have e1 : Aside0 (wrap64 (q - thr K b) = q - thr K b) := ⟨w64 (by omega) (by omega)⟩
      have e2 : Aside0 (wrap64 (36 - thr K b) = 36 - thr K b) := ⟨w64 (by omega) (by omega)⟩
      have e3 : Int.tmod (q - thr K b) (36 - thr K b) = (q - thr K b) % (36 - thr K b) := Int.tmod_eq_emod_of_nonneg (by omega)
      have e4 : Int.tdiv (q - thr K b) (36 - thr K b) = (q - thr K b) / (36 - thr K b) := Int.tdiv_eq_ediv_of_nonneg (by omega)
      have e5 : Aside0 (wrap64 (thr K b + (q - thr K b) % (36 - thr K b)) = thr K b + (q - thr K b) % (36 - thr K b)) := ⟨w64 (by omega) (by omega)⟩
      have e6 : Aside0 (wrap64 ((q - thr K b) / (36 - thr K b)) = (q - thr K b) / (36 - thr K b)) := Aside0.mk <| by
        have := pow2_le (show n ≤ 62 by omega)
        exact w64 (by omega) (by omega)
      have e7 : Aside0 (wrap64 (K + 36) = K + 36) := ⟨w64 (by omega) (by omega)⟩
      obtain ⟨D, a, l0, dg, d, e⟩ := ih ((q - thr K b) / (36 - thr K b)) (K + 36) d0 d1 (by omega) (by omega) (by omega)
      have hv := dval_dgt (thr K b + (q - thr K b) % (36 - thr K b)) (by omega) (by omega)
      refine ⟨dgt (thr K b + (q - thr K b) % (36 - thr K b)) :: D, by simp; omega, by simp, ?_, ?_, ?_⟩
      · intro x hx
        rcases List.mem_cons.1 hx with rfl | hx
        · exact hv.2
        · exact dg x hx
      · intro x5 hx
        refine Ev.step (fun k => impl_told.l0.eq_2 _ _ _ _ _) (ev_bindc (threshold_eq K b) (ev_neg c ?_))
        rw [e1.out, e2.out, e3, e4, e5.out, e6.out, e7.out]
        refine ev_neg (by omega) (ev_pos (by omega) (ev_pos (by omega) (ev_pos (by omega) ?_)))
        rw [digit_impl _ (by omega) (by omega)]
        have := d (x5 ++ [dgt (thr K b + (q - thr K b) % (36 - thr K b))]) (by simp; omega)
        rwa [List.append_assoc] at this
      · intro s r p i w hr hbs hi hiw hw0 hw1 hq
        obtain ⟨r, rfl⟩ : ∃ m, r = m + 1 := ⟨r - 1, by simp at hr; omega⟩
        simp only [List.length_cons] at hr hbs
        have b0 := hbs 0 (by omega)
        rw [Nat.add_zero] at b0
        rw [dig, b0, show (dgt (thr K b + (q - thr K b) % (36 - thr K b)) :: D).getD 0 0 = dgt (thr K b + (q - thr K b) % (36 - thr K b)) from rfl, hv.1]
        have hqw : 0 ≤ q * w := Int.mul_nonneg h0 (by omega)
        rw [if_neg (by omega), if_neg (by omega)]
        generalize thr K b = t at *
        generalize he : (q - t) / (36 - t) = e' at *
        generalize hf : (q - t) % (36 - t) = f at *
        have k1 : i + (t + f) * w + e' * (w * (36 - t)) = i + q * w := by
          have : q = t + f + (36 - t) * e' := by omega
          clear e d dg hbs b0 hv e1 e2 e3 e4 e5 e6 e7 ih stop
          grind
        have k2 : 0 ≤ (t + f) * w := Int.mul_nonneg (by omega) (by omega)
        have k3 : w ≤ q * w := by
          have : 1 * w ≤ q * w := Int.mul_le_mul_of_nonneg_right (by omega) (by omega)
          omega
        have k4 : w * (36 - t) ≤ 1073741824 * 35 := Int.mul_le_mul (by omega) (by omega) (by omega) (by omega)
        have k5 : 0 < w * (36 - t) := Int.mul_pos (by omega) (by omega)
        rw [e s r (p + 1) (i + (t + f) * w) (w * (36 - t)) (by omega) ?_ (by omega) (by omega) k5 (by omega) (by omega)]
        · rw [k1, List.length_cons]
          congr 2
          omega
        · intro j hj
          have := hbs (j + 1) (by omega)
          rw [show p + 1 + j = p + (j + 1) by omega, this]
          rfl
/-- the word as far as it is read: what is before a place and at most m, and what is behind and less than m -/
def part (w : List Int) (m : Int) (j : Nat) : List Int := (w.take j).filter (fun x => decide (x ≤ m)) ++ (w.drop j).filter (fun x => decide (x < m))
def cnt (w : List Int) (m : Int) (j : Nat) : Nat := ((w.take j).filter (fun x => decide (x ≤ m))).length
theorem drop_cons (w : List Int) (j : Nat) (h : j < w.length) : w.drop j = rd w (j : Int) :: w.drop (j + 1) := by
  rw [List.drop_eq_getElem_cons h]; simp [rd, h]
theorem cnt_step (w : List Int) (m : Int) (j : Nat) (h : j < w.length) : cnt w m (j + 1) = cnt w m j + if rd w (j : Int) ≤ m then 1 else 0 := by
  unfold cnt
  rw [take_snoc' w j h, List.filter_append, List.length_append]
  by_cases c : rd w (j : Int) ≤ m <;> simp [c]
theorem part_same (w : List Int) (m : Int) (j : Nat) (h : j < w.length) (hn : rd w (j : Int) ≠ m) : part w m (j + 1) = part w m j := by
  unfold part
  rw [take_snoc' w j h, drop_cons w j h, List.filter_append, List.filter_cons]
  by_cases c : rd w (j : Int) < m
  · simp [c, show rd w (j : Int) ≤ m by omega]
  · simp [c, show ¬ rd w (j : Int) ≤ m by omega]
theorem part_put (w : List Int) (m : Int) (j : Nat) (h : j < w.length) (hn : rd w (j : Int) = m) : part w m (j + 1) = (part w m j).take (cnt w m j) ++ [m] ++ (part w m j).drop (cnt w m j) := by
  have e1 : (part w m j).take (cnt w m j) = (w.take j).filter (fun x => decide (x ≤ m)) := by unfold part cnt; rw [List.take_left]
  have e2 : (part w m j).drop (cnt w m j) = (w.drop j).filter (fun x => decide (x < m)) := by unfold part cnt; rw [List.drop_left]
  rw [e1, e2]
  unfold part
  rw [take_snoc' w j h, drop_cons w j h, List.filter_append, List.filter_cons]
  simp [hn]
theorem cnt_le (w : List Int) (m : Int) (j : Nat) : cnt w m j ≤ (part w m j).length := by unfold part cnt; simp
theorem part_le (w : List Int) (m : Int) (j : Nat) : (part w m j).length ≤ w.length := by
  unfold part
  rw [List.length_append]
  have h1 := List.length_filter_le (fun x => decide (x ≤ m)) (w.take j)
  have h2 := List.length_filter_le (fun x => decide (x < m)) (w.drop j)
  have h3 : (w.take j).length + (w.drop j).length = w.length := by simp; omega
  omega
theorem part_end (w : List Int) (m : Int) : part w m w.length = part w (m + 1) 0 ∧ cnt w m w.length = (part w m w.length).length := by
  unfold part cnt
  simp only [List.take_length, List.drop_length, List.take_zero, List.drop_zero, List.filter_nil, List.append_nil, List.nil_append]
  refine ⟨?_, trivial⟩
  apply List.filter_congr
  intro x _
  simp only [decide_eq_decide]
  omega
theorem part_mid (w : List Int) (n m : Int) (hnm : n ≤ m) (h : ∀ x ∈ w, x < n ∨ m ≤ x) : part w m 0 = part w n 0 := by
  unfold part
  simp only [List.take_zero, List.drop_zero, List.filter_nil, List.nil_append]
  apply List.filter_congr
  intro x hx
  simp only [decide_eq_decide]
  have := h x hx
  omega
theorem part_all (w : List Int) (n : Int) (h : (part w n 0).length = w.length) : part w n 0 = w := by
  unfold part at *
  simp only [List.take_zero, List.drop_zero, List.filter_nil, List.nil_append] at *
  exact List.filter_eq_self.2 (List.length_filter_eq_length_iff.1 h)
/-- from here on what is still to come (F) is read as the rest of the word -/
structure Dec (w : List Int) (basic : Int) (F : List Int) (m : Int) (j : Nat) (delta bias : Int) (h : Nat) : Prop where
  dig : ∀ x ∈ F, 48 ≤ x ∧ x ≤ 122
  len : F.length + 41 * h ≤ 820
  go : ∀ (s : ByteArray) (Z : List Int × Bool) (p : Nat) (nd id : Int), s.size ≤ 60 → p + F.length = s.size → (∀ j : Nat, j < F.length → bt s ((p + j : Nat) : Int) = F.getD j 0) →
    (∀ n i b, Ev (fun k => impl_ReadPuny.l1 k s w (s.extract s.size s.size) basic n i b) Z) → 0 ≤ nd → nd ≤ m → 0 ≤ id → id ≤ 100 →
    id + delta + nd * ((h : Int) + 1) = m * ((h : Int) + 1) + cnt w m j → (part w m j).length = h → Ev (fun k => impl_ReadPuny.l1 k s (part w m j) (s.extract p s.size) basic nd id bias) Z
theorem inner_dec (w : List Int) (basic : Int) (hw : w.length ≤ 20) (m : Int) (hm0 : 0 ≤ m) (hm1 : m ≤ 1114111) (h0 : Nat) (B : Int) (hB : B ≤ 1000000000)
    (hO : ∀ (R : List Int) (delta bias : Int), 0 ≤ delta → delta ≤ B → 0 ≤ bias → bias ≤ 400 → R.length ≤ 50 + 45 * (h0 + eqs w m) → (eqs w m = 0 ∨ delta ≤ 20) →
      ∃ F : List Int, Ev (fun k => impl_puny.l1 k w (strOfNums R) basic (wrap64 (m + 1)) (wrap64 (delta + 1)) bias ((h0 + eqs w m : Nat) : Int)) (strOfNums (R ++ F)) ∧ Dec w basic F (m + 1) 0 (delta + 1) bias (h0 + eqs w m)) (hh : h0 + eqs w m ≤ 20) :
    ∀ (d i : Nat) (R : List Int) (delta bias : Int), i + d = w.length → 0 ≤ delta → delta + d ≤ B → 0 ≤ bias → bias ≤ 400 → R.length ≤ 50 + 45 * (h0 + eqs (w.take i) m) → (eqs (w.take i) m = 0 ∨ delta ≤ i) →
      ∃ F : List Int, Ev (fun k => impl_puny.l3 k w (strOfNums R) basic m delta bias ((h0 + eqs (w.take i) m : Nat) : Int) w (w.length : Int) (i : Int)) (strOfNums (R ++ F)) ∧
        Dec w basic F m i delta bias (h0 + eqs (w.take i) m) := by
  intro d
  induction d with
  | zero =>
    intro i R delta bias hi hd0 hd1 hb0 hb1 hR hz
    obtain rfl : i = w.length := by omega
    rw [List.take_length] at hR hz ⊢
    obtain ⟨F, f1, f2⟩ := hO R delta bias hd0 (by omega) hb0 hb1 hR (z_end hz (by omega))
    refine ⟨F, Ev.step (fun k => impl_puny.l3.eq_2 _ _ _ _ _ _ _ _ _ _ _) (ev_neg (by omega) f1), f2.dig, f2.len, ?_⟩
    intro s Z p nd id g1 g2 g3 g4 g5 g6 g7 g8 g9 g10
    obtain ⟨e1, e2⟩ := part_end w m
    rw [e1]
    refine f2.go s Z p nd id g1 g2 g3 g4 g5 (by omega) g7 g8 ?_ (by rw [← e1]; exact g10)
    have : cnt w (m + 1) 0 = 0 := by simp [cnt]
    rw [this]
    rw [e2, g10] at g9
    generalize ((h0 + eqs w m : Nat) : Int) = hh at *
    clear f2 f1 hO g3 g4
    grind
  | succ d ih =>
    intro i R delta bias hi hd0 hd1 hb0 hb1 hR hz
    have het := eqs_take w m i (by omega)
    have hle := eqs_take_le w m i
    have hle1 := eqs_take_le w m (i + 1)
    have hcs := cnt_step w m i (by omega)
    have ei : Aside0 (wrap64 ((i : Int) + 1) = ((i + 1 : Nat) : Int)) := ⟨by unfold wrap64; omega⟩
    by_cases c1 : rd w (i : Int) < m
    · replace het : eqs (w.take (i + 1)) m = eqs (w.take i) m := by rw [het, if_neg (by omega)]; rfl
      replace hcs : cnt w m (i + 1) = cnt w m i + 1 := by rw [hcs, if_pos (by omega)]
      obtain ⟨F, f1, f2⟩ := ih (i + 1) R (delta + 1) bias (by omega) (by omega) (by omega) hb0 hb1 (by rw [het]; exact hR) (z_step het hz)
      rw [het] at f1 f2
      refine ⟨F, ?_, f2.dig, f2.len, ?_⟩
      · refine Ev.step (fun k => impl_puny.l3.eq_2 _ _ _ _ _ _ _ _ _ _ _) (ev_pos (by omega) (ev_pos (by omega) (ev_pos (by omega) (ev_pos c1 ?_))))
        refine Ev.step (fun k => impl_puny.j5.eq_2 _ _ _ _ _ _ _ _ _ _ _ _) (ev_neg (by omega) ?_)
        rw [ei.out, w64 (by omega) (by omega)]; exact f1
      · intro s Z p nd id g1 g2 g3 g4 g5 g6 g7 g8 g9 g10
        have ps := part_same w m i (by omega) (by omega)
        rw [← ps]
        refine f2.go s Z p nd id g1 g2 g3 g4 g5 g6 g7 g8 ?_ (by rw [ps]; exact g10)
        rw [hcs]
        omega
    · by_cases c2 : rd w (i : Int) = m
      · rw [if_pos c2] at het
        replace hcs : cnt w m (i + 1) = cnt w m i + 1 := by rw [hcs, if_pos (by omega)]
        obtain ⟨D, dl, dl0, dd, t1, t2⟩ := told_dec bias 40 delta 36 hd0 (by have := hB; clear hO hR hz hle hle1 het ih; omega) (by decide) (by decide) (by decide)
        obtain ⟨nb, n0, n1, n2⟩ := adapted_ev delta ((h0 + eqs (w.take i) m : Nat) + 1) (((h0 + eqs (w.take i) m : Nat) : Int) == basic) hd0 (by omega) (by omega) (by omega)
        obtain ⟨F, f1, f2⟩ := ih (i + 1) (R ++ D) 0 nb (by omega) (by omega) (by omega) n0 (by omega) (by simp; omega) (.inr (Int.natCast_nonneg _))
        have eh : Aside0 (wrap64 (((h0 + eqs (w.take i) m : Nat) : Int) + 1) = ((h0 + eqs (w.take (i + 1)) m : Nat) : Int)) := ⟨by rw [het]; unfold wrap64; omega⟩
        have eh' : ((h0 + eqs (w.take i) m : Nat) : Int) + 1 = ((h0 + eqs (w.take (i + 1)) m : Nat) : Int) := by rw [het]; omega
        have n2' := n2
        rw [eh'] at n2
        have f2l := f2.len
        refine ⟨D ++ F, ?_, ?_, by rw [List.length_append]; omega, ?_⟩
        · refine Ev.step (fun k => impl_puny.l3.eq_2 _ _ _ _ _ _ _ _ _ _ _) (ev_pos (by omega) (ev_pos (by omega) (ev_pos (by omega) (ev_neg c1 ?_))))
          have ht : Ev (fun k => impl_told.f k delta bias) (strOfNums D) := by
            exact t1 [] (by simp)
          refine Ev.step (fun k => impl_puny.j5.eq_2 _ _ _ _ _ _ _ _ _ _ _ _) (ev_pos c2 (Ev.bind ht (ev_pos (by rw [strOfNums_size, strOfNums_size]; omega) ?_)))
          rw [eh.out, ei.out, ← str_append]
          rw [List.append_assoc] at f1
          exact Ev.bind n2 f1
        · intro x hx
          rcases List.mem_append.1 hx with q | q
          · exact dd x q
          · exact f2.dig x q
        · intro s Z p nd id g1 g2 g3 g4 g5 g6 g7 g8 g9 g10
          have hcl := cnt_le w m i
          rw [g10] at hcl
          have hpl : (part w m i).length < w.length := by
            have e1 := part_le w m (i + 1)
            rw [part_put w m i (by omega) c2] at e1
            simp only [List.length_append, List.length_take, List.length_drop, List.length_cons, List.length_nil] at e1
            omega
          simp only [List.length_append] at g2
          have hnil : ¬ (s.extract p s.size).toList = ([] : List UInt8) := fun h => by have := (ext_nil s p (by omega)).1 h; omega
          obtain ⟨a, b⟩ := dig_impl s (part w m i) basic nd bias id g1 (s.size - p) p id 1 36 (by omega) g7 (by omega) (by omega) (by omega) (by omega) (by omega)
          have e := t2 s (s.size - p) p id 1 (by omega) (fun j hj => by
            rw [g3 j (by simp; omega), List.getD_eq_getElem?_getD, List.getD_eq_getElem?_getD, List.getElem?_append_left hj]) g7 (by omega) (by omega) (by omega) (by omega)
          rw [Int.mul_one] at e
          obtain ⟨b', b0, b1, hb, k⟩ := cont_I s (part w m i) (s.extract (p + D.length) s.size) basic nd (id + delta) bias id (by omega) g7 (by omega) (by omega) g5 (by omega)
          rw [show id + delta - id = delta by omega, g10] at hb
          have eb : b' = nb := ev_uniq hb n2'
          subst eb
          refine Ev.step (fun k => impl_ReadPuny.l1.eq_2 _ _ _ _ _ _ _ _) (ev_neg hnil ?_)
          rw [decide_eq_true (show ((part w m i).length : Int) ≤ 20 by omega)]
          refine Ev.step (fun k => impl_ReadPuny.j3.eq_2 _ _ _ _ _ _ _ _ _) (ev_pos rfl (b _ _ _ e (k _ ?_)))
          have q1 : id + delta = (m - nd) * (((part w m i).length : Int) + 1) + cnt w m i := by
            rw [g10]
            generalize ((h0 + eqs (List.take i w) m : Nat) : Int) = hh at *
            generalize (cnt w m i : Int) = cc at *
            clear f2 f1 hO g3 g4 b k a t1 t2 ih
            grind
          have q2 : (id + delta) / (((part w m i).length : Int) + 1) = m - nd := by
            rw [q1, Int.add_comm, Int.add_mul_ediv_right _ _ (by omega), Int.ediv_eq_zero_of_lt (by omega) (by omega)]
            omega
          have q3 : (id + delta) % (((part w m i).length : Int) + 1) = cnt w m i := by
            rw [q1, Int.add_comm, Int.add_mul_emod_self_right, Int.emod_eq_of_lt (by omega) (by omega)]
          rw [q2, q3, show nd + (m - nd) = m by omega, Int.toNat_natCast, ← part_put w m i (by omega) c2]
          have pp := part_put w m i (by omega) c2
          refine f2.go s Z (p + D.length) m _ g1 (by omega) ?_ g4 hm0 (Int.le_refl _) (by omega) (by omega) ?_ ?_
          · intro j hj
            have := g3 (D.length + j) (by simp; omega)
            rw [show p + D.length + j = p + (D.length + j) by omega, this, List.getD_eq_getElem?_getD, List.getD_eq_getElem?_getD, List.getElem?_append_right (by omega)]
            congr 2
            omega
          · rw [hcs]
            omega
          · rw [pp, het]
            simp
            omega
      · replace het : eqs (w.take (i + 1)) m = eqs (w.take i) m := by rw [het, if_neg c2]; rfl
        replace hcs : cnt w m (i + 1) = cnt w m i := by rw [hcs, if_neg (by omega)]; rfl
        obtain ⟨F, f1, f2⟩ := ih (i + 1) R delta bias (by omega) (by omega) (by omega) hb0 hb1 (by rw [het]; exact hR) (z_keep het hz)
        rw [het] at f1 f2
        refine ⟨F, ?_, f2.dig, f2.len, ?_⟩
        · refine Ev.step (fun k => impl_puny.l3.eq_2 _ _ _ _ _ _ _ _ _ _ _) (ev_pos (by omega) (ev_pos (by omega) (ev_pos (by omega) (ev_neg c1 ?_))))
          refine Ev.step (fun k => impl_puny.j5.eq_2 _ _ _ _ _ _ _ _ _ _ _ _) (ev_neg c2 ?_)
          rw [ei.out]; exact f1
        · intro s Z p nd id g1 g2 g3 g4 g5 g6 g7 g8 g9 g10
          have ps := part_same w m i (by omega) c2
          rw [← ps]
          refine f2.go s Z p nd id g1 g2 g3 g4 g5 g6 g7 g8 ?_ (by rw [ps]; exact g10)
          rw [hcs]
          exact g9
theorem outer_dec (w : List Int) (basic : Int) (hw : w.length ≤ 20) (hr : ∀ x ∈ w, 0 ≤ x ∧ x ≤ 1114111) : ∀ (g : Nat) (n delta bias : Int) (R : List Int), w.length - less w n ≤ g → 0 ≤ n → n ≤ 1114112 → 0 ≤ delta → delta ≤ 21 → 0 ≤ bias → bias ≤ 400 → R.length ≤ 50 + 45 * less w n →
    ∃ F : List Int, Ev (fun k => impl_puny.l1 k w (strOfNums R) basic n delta bias ((less w n : Nat) : Int)) (strOfNums (R ++ F)) ∧ Dec w basic F n 0 delta bias (less w n) := by
  have last : ∀ (n delta bias : Int) (R : List Int), ¬ ((less w n : Nat) : Int) < (w.length : Int) → ∃ F : List Int, Ev (fun k => impl_puny.l1 k w (strOfNums R) basic n delta bias ((less w n : Nat) : Int)) (strOfNums (R ++ F)) ∧ Dec w basic F n 0 delta bias (less w n) := by
    intro n delta bias R c
    have hle := less_le w n
    refine ⟨[], by rw [List.append_nil]; exact Ev.step (fun k => impl_puny.l1.eq_2 _ _ _ _ _ _ _ _) (ev_neg (by omega) (Ev.now _)), fun x hx => by simp at hx, by simp; omega, ?_⟩
    intro s Z p nd id g1 g2 g3 g4 g5 g6 g7 g8 g9 g10
    have ep : p = s.size := by simpa using g2
    rw [ep, part_all w n (by omega)]
    exact g4 _ _ _
  intro g
  induction g with
  | zero =>
    intro n delta bias R hg hn0 hn1 hd0 hd1 hb0 hb1 hR
    have := less_le w n
    exact last n delta bias R (by omega)
  | succ g ih =>
    intro n delta bias R hg hn0 hn1 hd0 hd1 hb0 hb1 hR
    have hle := less_le w n
    by_cases c : ((less w n : Nat) : Int) < (w.length : Int)
    · obtain ⟨m, a1, a2, a3, a4, a5, a6⟩ := least_both w hw hr n hn0 w.length 0 1114112 (by omega) hn1 (by omega) (.inl rfl) (fun j hj => by omega)
      have hmw : m ∈ w := by
        rcases a3 with e | e
        · exfalso
          have : less w n = w.length := less_all w n (fun x hx => by have := hr x hx; rcases a4 x hx with q | q <;> omega)
          omega
        · exact e
      have hm1 := (hr m hmw).2
      have hlm := less_mid w n m a1 a4
      have hls := less_succ w m
      have hep := eqs_pos w m hmw
      have hl1 := less_le w (m + 1)
      have hmul : 0 ≤ (m - n) * ((less w n : Nat) + 1 : Int) ∧ (m - n) * ((less w n : Nat) + 1 : Int) ≤ 1114112 * 21 := by
        constructor
        · exact Int.mul_nonneg (by omega) (by omega)
        · exact Int.le_trans (Int.mul_le_mul_of_nonneg_left (show ((less w n : Nat) + 1 : Int) ≤ 21 by omega) (by omega)) (by omega)
      have e1 : Aside0 (wrap64 (m - n) = m - n) := ⟨w64 (by omega) (by omega)⟩
      have e2 : Aside0 (wrap64 (((less w n : Nat) : Int) + 1) = ((less w n : Nat) : Int) + 1) := ⟨w64 (by omega) (by omega)⟩
      have e3 : Aside0 (wrap64 ((m - n) * (((less w n : Nat) : Int) + 1)) = (m - n) * (((less w n : Nat) : Int) + 1)) := ⟨w64 (by omega) (by omega)⟩
      have e4 : Aside0 (wrap64 (delta + (m - n) * (((less w n : Nat) : Int) + 1)) = delta + (m - n) * (((less w n : Nat) : Int) + 1)) := ⟨w64 (by omega) (by omega)⟩
      have hlt : less w n + eqs w m = less w (m + 1) := by rw [hls, hlm]
      obtain ⟨F, f1, f2⟩ := inner_dec w basic hw m (by omega) hm1 (less w n) 30000000 (by decide) (by
          intro R' dl bs q0 q1 q2 q3 q4 q5
          rw [hlt] at q4 ⊢
          rw [w64 (x := m + 1) (by omega) (by omega), w64 (x := dl + 1) (by omega) (by omega)]
          exact ih (m + 1) (dl + 1) bs R' (by omega) (by omega) (by omega) (by omega) (by omega) q2 q3 q4) (by omega)
        w.length 0 R (delta + (m - n) * (((less w n : Nat) : Int) + 1)) bias (by omega) (by omega) (by omega) hb0 hb1 (by simp [eqs]; omega) (.inl (by simp [eqs]))
      have z : eqs (w.take 0) m = 0 := by simp [eqs]
      rw [z, Nat.add_zero] at f1 f2
      refine ⟨F, ?_, f2.dig, f2.len, ?_⟩
      · refine Ev.step (fun k => impl_puny.l1.eq_2 _ _ _ _ _ _ _ _) (ev_pos c (a5 _ _ _ _ _ _ ?_))
        rw [e1.out, e2.out, e3.out, e4.out]; exact f1
      · intro s Z p nd id g1 g2 g3 g4 g5 g6 g7 g8 g9 g10
        have pm := part_mid w n m a1 a4
        rw [← pm]
        refine f2.go s Z p nd id g1 g2 g3 g4 g5 (by omega) g7 g8 ?_ (by rw [pm]; exact g10)
        have z1 : cnt w m 0 = 0 := by simp [cnt]
        have z2 : cnt w n 0 = 0 := by simp [cnt]
        rw [z2] at g9
        rw [z1]
        generalize (less w n : Int) = hh at *
        clear f2 f1 g3 g4 a5 a6 ih
        grind
    · exact last n delta bias R c
/-! ### a word is read back -/
theorem getD_app (x z : List Int) (j : Nat) (h : j < x.length) : (x ++ z).getD j 0 = x.getD j 0 := by
  rw [List.getD_eq_getElem?_getD, List.getElem?_append_left h, ← List.getD_eq_getElem?_getD]
theorem getD_app2 (x z : List Int) (j : Nat) (h : x.length ≤ j) : (x ++ z).getD j 0 = z.getD (j - x.length) 0 := by
  rw [List.getD_eq_getElem?_getD, List.getElem?_append_right h, ← List.getD_eq_getElem?_getD]
theorem bt_str (l : List Int) (hl : ∀ x ∈ l, 0 ≤ x ∧ x ≤ 255) (j : Nat) (hj : j < l.length) : bt (strOfNums l) (j : Int) = l.getD j 0 := by
  have hs : j < (strOfNums l).size := by rw [strOfNums_size]; exact hj
  have hx := hl (l.getD j 0) (mem_getD hj)
  unfold bt
  rw [dif_pos (by simpa using hs)]
  have e : (strOfNums l)[j]'hs = UInt8.ofNat (l.getD j 0).toNat := by
    simp only [strOfNums, ByteArray.getElem_eq_getElem_data, List.getElem_toArray, List.getElem_map]
    rw [List.getD_eq_getElem?_getD, List.getElem?_eq_getElem hj]
    rfl
  simp only [Int.toNat_natCast, e]
  rw [UInt8.toNat_ofNat']
  omega
theorem bts_eq (l z : List Int) (h : ∀ j : Nat, j < l.length → bt (strOfNums (l ++ z)) (j : Int) = l.getD j 0) : bts (strOfNums (l ++ z)) l.length = l := by
  apply List.ext_getElem?
  intro j
  by_cases hj : j < l.length
  · unfold bts
    rw [List.getElem?_map, List.getElem?_range hj]
    simp only [Option.map_some]
    rw [h j hj, List.getD_eq_getElem?_getD, List.getElem?_eq_getElem hj]
    rfl
  · rw [List.getElem?_eq_none (by rw [bts_length]; omega), List.getElem?_eq_none (by omega)]
theorem plain_part (w : List Int) : part w 128 0 = plainOf w := by
  unfold part plainOf
  simp
theorem puny_dec (w : List Int) (hw : w.length ≤ 20) (hr : ∀ x ∈ w, 0 ≤ x ∧ x ≤ 1114111) : ∃ G : List Int, ∃ C : List Int, C = (if (plainOf w).length = 0 then [] else plainOf w ++ [45]) ∧ Ev (fun k => impl_puny.f k w) (strOfNums (C ++ G)) ∧ Dec w ((plainOf w).length : Int) G 128 0 0 72 (less w 128) := by
  have hpl : ∀ i, i ≤ w.length → (plainOf (w.take i)).length ≤ i := by
    intro i hi
    unfold plainOf
    refine Nat.le_trans (List.length_filter_le _ _) ?_
    rw [List.length_take]; omega
  have fin : ∃ G : List Int, ∃ C : List Int, C = (if (plainOf w).length = 0 then [] else plainOf w ++ [45]) ∧ Ev (fun k => impl_puny.l0 k w (plainOf w) w (w.length : Int) (w.length : Int)) (strOfNums (C ++ G)) ∧ Dec w ((plainOf w).length : Int) G 128 0 0 72 (less w 128) := by
    have hp := plain_length w
    have hl := less_le w 128
    by_cases c : ((plainOf w).length : Int) > 0
    · obtain ⟨F, f1, f2⟩ := outer_dec w ((plainOf w).length : Int) hw hr w.length 128 0 72 (plainOf w ++ [45]) (by omega) (by omega) (by omega) (by omega) (by omega) (by omega) (by omega) (by simp; omega)
      rw [← hp] at f1
      refine ⟨F, _, rfl, ?_, f2⟩
      rw [if_neg (by omega)]
      refine Ev.step (fun k => impl_puny.l0.eq_2 _ _ _ _ _ _) (ev_neg (by omega) (ev_pos c (ev_pos (by rw [strOfNums_size]; omega) ?_)))
      refine Ev.step (fun k => impl_puny.j1.eq_2 _ _ _ _) ?_
      rw [show (strOfNums (plainOf w) ++ (⟨#[45]⟩ : ByteArray)) = strOfNums (plainOf w ++ [45]) by rw [str_append]; rfl]
      exact f1
    · obtain ⟨F, f1, f2⟩ := outer_dec w ((plainOf w).length : Int) hw hr w.length 128 0 72 (plainOf w) (by omega) (by omega) (by omega) (by omega) (by omega) (by omega) (by omega) (by omega)
      rw [← hp] at f1
      refine ⟨F, _, rfl, ?_, f2⟩
      rw [if_pos (by omega)]
      have e : plainOf w = [] := List.eq_nil_of_length_eq_zero (by omega)
      refine Ev.step (fun k => impl_puny.l0.eq_2 _ _ _ _ _ _) (ev_neg (by omega) (ev_neg c ?_))
      rw [e] at f1
      refine Ev.step (fun k => impl_puny.j1.eq_2 _ _ _ _) ?_
      rw [e]
      exact f1
  obtain ⟨G, C, hC, f1, f2⟩ := fin
  have key : ∀ d i : Nat, i + d = w.length → Ev (fun k => impl_puny.l0 k w (plainOf (w.take i)) w (w.length : Int) (i : Int)) (strOfNums (C ++ G)) := by
    intro d
    induction d with
    | zero =>
      intro i hi
      obtain rfl : i = w.length := by omega
      rw [List.take_length]
      exact f1
    | succ d ih =>
      intro i hi
      have g1 := ih (i + 1) (by omega)
      have hm := hr _ (rd_mem (xs := w) (i := (i : Int)) (by omega) (by omega))
      have ei : Aside0 (wrap64 ((i : Int) + 1) = ((i + 1 : Nat) : Int)) := ⟨by unfold wrap64; omega⟩
      have hpi := hpl i (by omega)
      rw [plain_take w i (by omega)] at g1
      by_cases c : rd w (i : Int) < 128
      · rw [if_pos c] at g1
        refine Ev.step (fun k => impl_puny.l0.eq_2 _ _ _ _ _ _) (ev_pos (by omega) (ev_pos (by omega) (ev_pos (by omega) (ev_pos c (ev_pos (by omega) ?_)))))
        rw [ei.out, show rd w (i : Int) % 256 = rd w (i : Int) by omega]; exact g1
      · rw [if_neg c, List.append_nil] at g1
        refine Ev.step (fun k => impl_puny.l0.eq_2 _ _ _ _ _ _) (ev_pos (by omega) (ev_pos (by omega) (ev_pos (by omega) (ev_neg c ?_))))
        rw [ei.out]; exact g1
  exact ⟨G, C, hC, key w.length 0 (by omega), f2⟩
theorem puny_back (w : List Int) (h : wordOk w = true) : ∃ F : List Int, F.length ≤ 1000 ∧ Ev (fun k => impl_puny.f k w) (strOfNums F) ∧ (F.length ≤ 60 → Ev (fun k => impl_ReadPuny.f k (strOfNums F)) (w, true)) := by
  obtain ⟨h1, h1', h2⟩ := wordOk_parts h
  obtain ⟨G, C, hC, f1, f2⟩ := puny_dec w h1 h2
  have hp := plain_length w
  have hl := less_le w 128
  have hlen := f2.len
  refine ⟨C ++ G, by rw [hC, List.length_append]; split <;> simp <;> omega, f1, fun hF => ?_⟩
  have hs : (strOfNums (C ++ G)).size = (C ++ G).length := strOfNums_size _
  have hP : ∀ x ∈ plainOf w, 0 ≤ x ∧ x < 128 := fun x hx => by
    have := List.mem_filter.1 hx
    have q := h2 x this.1
    have := of_decide_eq_true this.2
    omega
  -- what the text's bytes are
  have hbt : (∀ j : Nat, j < C.length → bt (strOfNums (C ++ G)) (j : Int) = C.getD j 0) ∧ (∀ j : Nat, j < G.length → bt (strOfNums (C ++ G)) ((C.length + j : Nat) : Int) = G.getD j 0) := by
    have hr : ∀ x ∈ C ++ G, 0 ≤ x ∧ x ≤ 255 := by
      intro x hx
      rcases List.mem_append.1 hx with q | q
      · rw [hC] at q
        split at q
        · simp at q
        · rcases List.mem_append.1 q with q | q
          · have := hP x q
            omega
          · rw [List.mem_singleton.1 q]
            decide
      · have a := f2.dig x q
        omega
    constructor
    · intro j hj
      rw [bt_str _ hr j (by simp; omega), getD_app _ _ _ hj]
    · intro j hj
      rw [bt_str _ hr _ (by simp; omega), getD_app2 _ _ _ (by omega)]
      congr 1
      omega
  have hend : ∀ n i b, Ev (fun k => impl_ReadPuny.l1 k (strOfNums (C ++ G)) w ((strOfNums (C ++ G)).extract (strOfNums (C ++ G)).size (strOfNums (C ++ G)).size) ((plainOf w).length : Int) n i b) (w, true) := by
    intro n i b
    refine Ev.step (fun k => impl_ReadPuny.l1.eq_2 _ _ _ _ _ _ _ _) (ev_pos ((ext_nil _ _ (Nat.le_refl _)).2 rfl) ?_)
    exact Ev.step (fun k => impl_ReadPuny.j3.eq_2 _ _ _ _ _ _ _ _ _) (ev_neg (by simp) (Ev.bind (isWord_ev w (by omega)) (ev_pos h (Ev.bind f1 (ev_pos rfl (Ev.now _))))))
  have hG0 : ∀ (p : Nat), p = C.length → Ev (fun k => impl_ReadPuny.l1 k (strOfNums (C ++ G)) (plainOf w) ((strOfNums (C ++ G)).extract p (strOfNums (C ++ G)).size) ((plainOf w).length : Int) 128 0 72) (w, true) := by
    rintro p rfl
    have := f2.go (strOfNums (C ++ G)) (w, true) C.length 128 0 (by omega) (by rw [hs]; simp) hbt.2 hend (by omega) (by omega) (by omega) (by omega) (by simp [cnt]) (by rw [plain_part, hp])
    rw [plain_part] at this
    exact this
  obtain ⟨r, hr, he⟩ := last_impl (strOfNums (C ++ G)) (by omega)
  by_cases c : (plainOf w).length = 0
  · rw [if_pos c] at hC
    have hlast : IsLast (strOfNums (C ++ G)) (strOfNums (C ++ G)).size (-1) := ⟨by omega, by omega, by omega, fun j _ hj => by
      have hjG : j < G.length := by rw [hs, hC] at hj; simpa using hj
      have e := hbt.2 j hjG
      rw [hC, List.length_nil, Nat.zero_add] at e
      rw [hC, e]
      have := f2.dig _ (mem_getD hjG)
      omega⟩
    obtain rfl := last_uniq hr hlast
    refine impl_start _ (by omega) _ hr he _ ?_
    have e : plainOf w = [] := List.eq_nil_of_length_eq_zero c
    have := hG0 0 (by rw [hC]; rfl)
    rw [e] at this
    exact this
  · rw [if_neg c] at hC
    have hcl : C.length = (plainOf w).length + 1 := by rw [hC]; simp
    have hC0 : ∀ j : Nat, j < (plainOf w).length → bt (strOfNums (C ++ G)) (j : Int) = (plainOf w).getD j 0 := by
      intro j hj
      rw [hbt.1 j (by omega), hC, getD_app _ _ _ hj]
    have hlast : IsLast (strOfNums (C ++ G)) (strOfNums (C ++ G)).size ((plainOf w).length : Int) := ⟨by omega, by rw [hs, List.length_append]; omega, fun _ => by
      rw [hbt.1 _ (by omega), hC, getD_app2 _ _ _ (Nat.le_refl _), Nat.sub_self]
      rfl, fun j hj hj2 => by
      rw [hs, List.length_append] at hj2
      have e := hbt.2 (j - C.length) (by omega)
      rw [show C.length + (j - C.length) = j by omega] at e
      rw [e]
      have := f2.dig _ (mem_getD (l := G) (j := j - C.length) (by omega))
      omega⟩
    obtain rfl := last_uniq hr hlast
    refine impl_start _ (by omega) _ hr he _ ?_
    have eb : bts (strOfNums (C ++ G)) (plainOf w).length = plainOf w := by
      have := bts_eq (plainOf w) ([45] ++ G) (fun j hj => by
        have := hC0 j hj
        rwa [hC, List.append_assoc] at this)
      rw [hC, List.append_assoc]
      exact this
    have := hG0 ((((plainOf w).length : Nat) : Int) + 1).toNat (by rw [hcl]; omega)
    rw [Int.toNat_natCast, eb]
    exact this
/-! ### what is read says its own text -/
def Says (s : ByteArray) (R : List Int × Bool) : Prop := R = ([], false) ∨ (R.2 = true ∧ wordOk R.1 = true ∧ ∃ F : List Int, Ev (fun k => impl_puny.f k R.1) (strOfNums F) ∧ (strOfNums F).toList = s.toList)
theorem end_says (s : ByteArray) (word : List Int) (rest : ByteArray) (basic n i bias : Int) (hl : word.length ≤ 200) : ∃ R : List Int × Bool, Says s R ∧ Ev (fun k => impl_ReadPuny.j3 k s word rest basic n i bias false) R := by
  cases c : wordOk word with
  | false => exact ⟨([], false), .inl rfl, end_I s word rest basic n i bias hl c⟩
  | true =>
    obtain ⟨F, _, f1, _⟩ := puny_back word c
    by_cases e : (strOfNums F).toList = s.toList
    · exact ⟨(word, true), .inr ⟨rfl, c, F, f1, e⟩, Ev.step (fun k => impl_ReadPuny.j3.eq_2 _ _ _ _ _ _ _ _ _) (ev_neg (by simp) (Ev.bind (isWord_ev word (by omega)) (ev_pos c (Ev.bind f1 (ev_pos e (Ev.now _))))))⟩
    · exact ⟨([], false), .inl rfl, Ev.step (fun k => impl_ReadPuny.j3.eq_2 _ _ _ _ _ _ _ _ _) (ev_neg (by simp) (Ev.bind (isWord_ev word (by omega)) (ev_pos c (Ev.bind f1 (ev_neg e (Ev.now _))))))⟩
theorem says_I (s : ByteArray) (hs : s.size ≤ 60) (basic : Int) : ∀ (g p : Nat) (word : List Int) (n i bias : Int), s.size - p ≤ g → p ≤ s.size → word.length ≤ 60 → 0 ≤ n → n ≤ 1200000 + 39582418599936 * word.length → 0 ≤ i → i ≤ 100 →
    ∃ R, Says s R ∧ Ev (fun k => impl_ReadPuny.l1 k s word (s.extract p s.size) basic n i bias) R := by
  intro g
  induction g with
  | zero =>
    intro p word n i bias hg hp hl n0 n1 i0 i1
    obtain ⟨R, r1, r2⟩ := end_says s word (s.extract p s.size) basic n i bias (by omega)
    exact ⟨R, r1, Ev.step (fun k => impl_ReadPuny.l1.eq_2 _ _ _ _ _ _ _ _) (ev_pos ((ext_nil s p hp).2 (by omega)) r2)⟩
  | succ g ih =>
    intro p word n i bias hg hp hl n0 n1 i0 i1
    by_cases c : (s.extract p s.size).toList = ([] : List UInt8)
    · obtain ⟨R, r1, r2⟩ := end_says s word (s.extract p s.size) basic n i bias (by omega)
      exact ⟨R, r1, Ev.step (fun k => impl_ReadPuny.l1.eq_2 _ _ _ _ _ _ _ _) (ev_pos c r2)⟩
    · have hp2 : p < s.size := Nat.lt_of_le_of_ne hp (fun h => c ((ext_nil s p hp).2 h))
      by_cases c2 : (word.length : Int) ≤ 20
      · have go : ∀ R, Ev (fun k => impl_ReadPuny.l2 k s word (s.extract p s.size) basic n i bias i 1 36) R → Ev (fun k => impl_ReadPuny.l1 k s word (s.extract p s.size) basic n i bias) R := by
          intro R hR
          refine Ev.step (fun k => impl_ReadPuny.l1.eq_2 _ _ _ _ _ _ _ _) (ev_neg c ?_)
          rw [decide_eq_true c2]
          exact Ev.step (fun k => impl_ReadPuny.j3.eq_2 _ _ _ _ _ _ _ _ _) (ev_pos rfl hR)
        obtain ⟨a, b⟩ := dig_impl s word basic n bias i hs (s.size - p) p i 1 36 (by omega) i0 (by omega) (by omega) (by omega) (by omega) (by omega)
        cases e : dig s bias (s.size - p) p i 1 36 with
        | none => exact ⟨_, .inl rfl, go _ (a e)⟩
        | some z =>
          obtain ⟨p', i'⟩ := z
          obtain ⟨d1, d2, d3, d4⟩ := dig_some s bias _ _ _ _ _ _ _ i0 (by omega) e
          obtain ⟨r0, r1, q0, q1⟩ := place_range i' word.length (by omega)
          obtain ⟨b', b0, b1, _, k⟩ := cont_I s word (s.extract p' s.size) basic n i' bias i (by omega) i0 d3 d4 n0 (by omega)
          obtain ⟨R, g1, g2⟩ := ih p' _ _ _ b' (by omega) (by omega) (show (word.take (i' % ((word.length : Int) + 1)).toNat ++ [n + i' / ((word.length : Int) + 1)] ++ word.drop (i' % ((word.length : Int) + 1)).toNat).length ≤ 60 by simp; omega) (show 0 ≤ n + i' / ((word.length : Int) + 1) by omega) (by simp; omega) (show 0 ≤ i' % ((word.length : Int) + 1) + 1 by omega) (by omega)
          exact ⟨R, g1, go _ (b p' i' _ e (k _ g2))⟩
      · obtain ⟨R, r1, r2⟩ := end_says s word (s.extract p s.size) basic n i bias (by omega)
        refine ⟨R, r1, Ev.step (fun k => impl_ReadPuny.l1.eq_2 _ _ _ _ _ _ _ _) (ev_neg c ?_)⟩
        rw [decide_eq_false c2]
        exact r2
theorem read_says (s : ByteArray) : ∃ R, Says s R ∧ Ev (fun k => impl_ReadPuny.f k s) R := by
  by_cases c : (s.size : Int) > 60
  · exact ⟨_, .inl rfl, ev_pos c (Ev.now _)⟩
  have hs : s.size ≤ 60 := by omega
  obtain ⟨r, hr, he⟩ := last_impl s hs
  have a := hr.lo
  have b := hr.hi
  obtain ⟨R, h1, h2⟩ := says_I s hs (r.toNat : Int) s.size (r + 1).toNat (bts s r.toNat) 128 0 72 (by omega) (by omega) (by rw [bts_length]; omega) (by omega) (by omega) (by omega) (by omega)
  exact ⟨R, h1, impl_start s hs r hr he R h2⟩
/-! ### draws -/
theorem below_any {l : List Int} {p : Int} (h : At l p) (s : Int) (a : Int) (h0 : 0 < a) : ∃ v p' s', spec_l1Below.f l p s a = some (v, p', s') ∧ 0 ≤ v ∧ v < a ∧ At l p' := by
  by_cases c : a ≤ 4294967296
  · exact below_some h s a h0 c
  · unfold spec_l1Below.f
    rw [if_neg (by omega), if_neg (by omega)]
    obtain ⟨b1, p1, s1, e1, r1, q1, h1'⟩ := byte_some h s
    rw [e1]
    simp only [Option.bind_some]
    obtain ⟨b2, p2, s2, e2, r2, q2, h2'⟩ := byte_some h1' s1
    rw [e2]
    simp only [Option.bind_some]
    obtain ⟨b3, p3, s3, e3, r3, q3, h3'⟩ := byte_some h2' s2
    rw [e3]
    simp only [Option.bind_some]
    obtain ⟨b4, p4, s4, e4, r4, q4, h4'⟩ := byte_some h3' s3
    rw [e4]
    simp only [Option.bind_some]
    rw [if_neg (by omega), w64 (x := b1 * 16777216) (by omega) (by omega), w64 (x := b2 * 65536) (by omega) (by omega), w64 (x := b1 * 16777216 + b2 * 65536) (by omega) (by omega), w64 (x := b3 * 256) (by omega) (by omega),
      w64 (x := b1 * 16777216 + b2 * 65536 + b3 * 256) (by omega) (by omega), w64 (x := b1 * 16777216 + b2 * 65536 + b3 * 256 + b4) (by omega) (by omega), Int.tmod_eq_emod_of_nonneg (by omega)]
    exact ⟨_, _, _, rfl, Int.emod_nonneg _ (by omega), Int.emod_lt_of_pos _ h0, h4'⟩
theorem pickS_some {l : List Int} {p : Int} (h : At l p) (s : Int) (xs : List ByteArray) (h0 : 0 < xs.length) (h1 : xs.length ≤ 1048576) (hx : ∀ x ∈ xs, x.size ≤ 100) : ∃ v p' s', spec_l1Pick.f l p s xs = some (v, p', s') ∧ At l p' ∧ v.size ≤ 100 := by
  unfold spec_l1Pick.f
  obtain ⟨v, p', s', e, r0, r1, h'⟩ := below_some h s (xs.length : Int) (by omega) (by omega)
  rw [e]
  simp only [Option.bind_some]
  rw [if_pos r0, if_pos r1]
  refine ⟨_, _, _, rfl, h', hx _ ?_⟩
  obtain ⟨n, rfl⟩ := Int.eq_ofNat_of_zero_le r0
  unfold rdOf
  rw [Int.toNat_natCast, List.getD_eq_getElem?_getD, List.getElem?_eq_getElem (by omega)]
  exact List.getElem_mem _
theorem drawWord_some {l : List Int} {p : Int} (h : At l p) (s : Int) : ∃ xs p' s', Ev (fun k => spec_l8DrawWord.f k l p s) (xs, p', s') ∧ At l p' ∧ xs.length ≤ 100 := by
  have l0 : ∀ (d : Nat) (xs : List Int) (p s : Int), At l p → xs.length + d ≤ 90 → ∃ ys p' s', Ev (fun k => spec_l8DrawWord.l0 k xs (d : Int) l p s) (ys, p', s') ∧ At l p' ∧ ys.length ≤ 100 := by
    intro d
    induction d with
    | zero =>
      intro xs p s h h9
      obtain ⟨c, p1, s1, e1, _, _, h1⟩ := below_some h s 25 (by omega) (by omega)
      by_cases c0 : c = 0
      · obtain ⟨v, p2, s2, e2, _, h2'⟩ := pick_some h1 s1 [(-1), 1114112] (by simp) (by simp)
        exact ⟨_, _, _, Ev.step (fun k => spec_l8DrawWord.l0.eq_2 _ _ _ _ _ _) (ev_neg (by omega) (ev_bindc e1 (ev_pos c0 (ev_bindc e2 (ev_pos (by omega) (Ev.now _)))))), h2', by simp; omega⟩
      by_cases c1 : c = 1
      · obtain ⟨v, p2, s2, e2, r0, r1, h2'⟩ := below_some h1 s1 2 (by omega) (by omega)
        have hw : wrap64 (20 + v) = 20 + v := w64 (by omega) (by omega)
        refine ⟨List.replicate (20 + v).toNat 0, p2, s2, Ev.step (fun k => spec_l8DrawWord.l0.eq_2 _ _ _ _ _ _) (ev_neg (by omega) (ev_bindc e1 (ev_neg c0 (ev_pos c1 (ev_bindc e2 ?_))))), h2', ?_⟩
        · simp only [hw]
          clear hw
          exact ev_pos (by omega) (ev_pos (by omega) (Ev.now _))
        · clear hw
          rw [List.length_replicate]
          omega
      by_cases c2 : c = 2
      · exact ⟨_, _, _, Ev.step (fun k => spec_l8DrawWord.l0.eq_2 _ _ _ _ _ _) (ev_neg (by omega) (ev_bindc e1 (ev_neg c0 (ev_neg c1 (ev_pos c2 (Ev.now _)))))), h1, by simp⟩
      · exact ⟨_, _, _, Ev.step (fun k => spec_l8DrawWord.l0.eq_2 _ _ _ _ _ _) (ev_neg (by omega) (ev_bindc e1 (ev_neg c0 (ev_neg c1 (ev_neg c2 (Ev.now _)))))), h1, by omega⟩
    | succ d ih =>
      intro xs p s h h9
      have hd : wrap64 (((d + 1 : Nat) : Int) - 1) = (d : Int) := by rw [w64 (by omega) (by omega)]; omega
      obtain ⟨c, p1, s1, e1, _, _, h1⟩ := below_some h s 4 (by omega) (by omega)
      by_cases c0 : c = 0
      · obtain ⟨v, p2, s2, e2, _, _, h2'⟩ := below_some h1 s1 20 (by omega) (by omega)
        obtain ⟨ys, p3, s3, e3, h3, l3⟩ := ih (xs ++ [wrap64 (228 + v)]) p2 s2 h2' (by simp; omega)
        refine ⟨ys, p3, s3, Ev.step (fun k => spec_l8DrawWord.l0.eq_2 _ _ _ _ _ _) (ev_pos (by omega) (ev_bindc e1 (ev_pos c0 (ev_bindc e2 (ev_pos (by omega) ?_))))), h3, l3⟩
        rw [hd]
        exact e3
      by_cases c1 : c = 1
      · obtain ⟨v, p2, s2, e2, _, h2'⟩ := pick_some h1 s1 [128, 1114111, 65536, 12354, 0, 45, 127] (by simp) (by simp)
        obtain ⟨ys, p3, s3, e3, h3, l3⟩ := ih (xs ++ [v]) p2 s2 h2' (by simp; omega)
        refine ⟨ys, p3, s3, Ev.step (fun k => spec_l8DrawWord.l0.eq_2 _ _ _ _ _ _) (ev_pos (by omega) (ev_bindc e1 (ev_neg c0 (ev_pos c1 (ev_bindc e2 (ev_pos (by omega) ?_)))))), h3, l3⟩
        rw [hd]
        exact e3
      · obtain ⟨v, p2, s2, e2, _, _, h2'⟩ := below_some h1 s1 26 (by omega) (by omega)
        obtain ⟨ys, p3, s3, e3, h3, l3⟩ := ih (xs ++ [wrap64 (97 + v)]) p2 s2 h2' (by simp; omega)
        refine ⟨ys, p3, s3, Ev.step (fun k => spec_l8DrawWord.l0.eq_2 _ _ _ _ _ _) (ev_pos (by omega) (ev_bindc e1 (ev_neg c0 (ev_neg c1 (ev_bindc e2 (ev_pos (by omega) ?_)))))), h3, l3⟩
        rw [hd]
        exact e3
  obtain ⟨v, p1, s1, e1, r0, r1, h1⟩ := below_some h s 8 (by omega) (by omega)
  obtain ⟨ys, p3, s3, e3, h3, l3⟩ := l0 (1 + v).toNat [] p1 s1 h1 (by simp; omega)
  refine ⟨ys, p3, s3, ev_bindc e1 ?_, h3, l3⟩
  show Ev (fun k => spec_l8DrawWord.l0 k [] (wrap64 (1 + v)) l p1 s1) (ys, p3, s3)
  rw [w64 (by omega) (by omega)]
  rw [Int.toNat_of_nonneg (by omega)] at e3
  exact e3
theorem sameInts_ev (l : List Int) (hl : l.length ≤ 1048577) : Ev (fun k => laws_sameInts.f k l l) true :=
  ev_pos rfl (by simpa using eq_ev (L := laws_sameInts.l0) (fun _ _ _ _ => rfl) l l (by omega) rfl)
/-- both programs' texts of a word: the same, with what is read of it -/
theorem text_both (w : List Int) (hl : w.length ≤ 1048576) : ∃ s : ByteArray, s.size ≤ 1000 ∧ Ev (fun k => impl_Puny.f k w) (s, wordOk w) ∧ Ev (fun k => spec_Puny.f k w) (s, wordOk w) ∧ (wordOk w = true → s.size ≤ 60 → Ev (fun k => impl_ReadPuny.f k s) (w, true)) := by
  cases c : wordOk w with
  | true =>
    obtain ⟨h1, _, h2⟩ := wordOk_parts c
    obtain ⟨F, f1, f2⟩ := puny_both w h1 h2
    obtain ⟨F', f0, f3, f4⟩ := puny_back w c
    have e := ev_uniq f1 f3
    rw [e] at f1 f2
    refine ⟨strOfNums F', by rw [strOfNums_size]; exact f0, Ev.bind (isWord_ev w hl) (ev_pos c (Ev.bind f1 (Ev.now _))), Ev.bind (l8WordOk_ev w hl) (ev_pos c f2), fun _ hs => f4 (by rw [strOfNums_size] at hs; exact hs)⟩
  | false =>
    exact ⟨⟨#[]⟩, by decide, Ev.bind (isWord_ev w hl) (ev_neg (by rw [c]; simp) (Ev.now _)), Ev.bind (l8WordOk_ev w hl) (ev_neg (by rw [c]; simp) (Ev.now _)), fun h => by cases h⟩
theorem drawReadPuny_ev (l : List Int) (hl : l.length ≤ 1048576) : ∃ t, Ev (fun k => spec_DrawReadPuny.f k l) t := by
  obtain ⟨s, h⟩ := new_ev l hl
  obtain ⟨xs, p1, s1, e1, h1, l1⟩ := drawWord_some (l := l) (p := 0) ⟨hl, by omega, by omega⟩ s
  obtain ⟨u, u0, _, u2, _⟩ := text_both xs (by omega)
  obtain ⟨v, p2, s2, e2, r0, r1, h2⟩ := below_some h1 s1 6 (by omega) (by omega)
  by_cases c0 : v = 0
  · obtain ⟨z, p3, s3, e3, h3, z1⟩ := pickS_some h2 s2 [(⟨#[97]⟩ : ByteArray), (⟨#[57]⟩ : ByteArray), (⟨#[45]⟩ : ByteArray), (⟨#[122, 122]⟩ : ByteArray), (⟨#[65]⟩ : ByteArray)] (by decide) (by decide) (by decide)
    exact ⟨_, Ev.bind h (Ev.bind e1 (Ev.bind u2 (ev_bindc e2 (ev_pos c0 (ev_bindc e3 (ev_pos (show u.size + z.size ≤ 9223372036854775807 by omega) (Ev.now _)))))))⟩
  by_cases c1 : v = 1
  · by_cases c3 : (u.size : Int) > 0
    · obtain ⟨z, p3, s3, e3, z0, z1, h3⟩ := below_some h2 s2 (u.size : Int) (by omega) (by omega)
      exact ⟨_, Ev.bind h (Ev.bind e1 (Ev.bind u2 (ev_bindc e2 (ev_neg c0 (ev_pos c1 (ev_pos c3 (ev_bindc e3 (ev_pos (show 0 ≤ z by omega) (ev_pos (show z ≤ (u.size : Int) by omega) (Ev.now _))))))))))⟩
    · exact ⟨_, Ev.bind h (Ev.bind e1 (Ev.bind u2 (ev_bindc e2 (ev_neg c0 (ev_pos c1 (ev_neg c3 (Ev.now _)))))))⟩
  by_cases c2 : v = 2
  · obtain ⟨z, p3, s3, e3, h3, z1⟩ := pickS_some h2 s2 [(⟨#[]⟩ : ByteArray), (⟨#[45]⟩ : ByteArray), (⟨#[97]⟩ : ByteArray), (⟨#[57, 57, 57, 57, 57, 57, 57, 57]⟩ : ByteArray), (⟨#[98, 99, 104, 101, 114, 45, 107, 118, 97]⟩ : ByteArray), (⟨#[45, 45]⟩ : ByteArray), (⟨#[97, 45]⟩ : ByteArray), (⟨#[122, 122, 122, 122, 122, 122, 122, 122, 122, 122, 122, 122, 122, 122, 122]⟩ : ByteArray)] (by decide) (by decide) (by decide)
    exact ⟨_, Ev.bind h (Ev.bind e1 (Ev.bind u2 (ev_bindc e2 (ev_neg c0 (ev_neg c1 (ev_pos c2 (ev_bindc e3 (Ev.now _))))))))⟩
  · exact ⟨_, Ev.bind h (Ev.bind e1 (Ev.bind u2 (ev_bindc e2 (ev_neg c0 (ev_neg c1 (ev_neg c2 (Ev.now _)))))))⟩
theorem FnPuny : laws_FnPuny.Pure := by
  intro l _ _ _
  by_cases c0 : (l.length : Int) > 1048576
  · exact ev_k (ev_bindc (show laws_big.f l = some true by unfold laws_big.f; rw [decide_eq_true c0]) (ev_pos rfl (Ev.now _)))
  have hl : l.length ≤ 1048576 := by omega
  obtain ⟨sd, hn⟩ := new_ev l hl
  obtain ⟨w, p1, s1, e1, h1, l1⟩ := drawWord_some (l := l) (p := 0) ⟨hl, by omega, by omega⟩ sd
  have hd : Ev (fun k => spec_DrawPuny.f k l) w := Ev.bind hn (Ev.bind e1 (Ev.now _))
  obtain ⟨u, u0, u1, u2, u3⟩ := text_both w (by omega)
  obtain ⟨t, ht⟩ := drawReadPuny_ev l hl
  have j1 : Ev (fun k => laws_FnPuny.j1 k l) true := by
    obtain ⟨R, hR, hi⟩ := read_says t
    refine Ev.step (fun k => laws_FnPuny.j1.eq_2 _ _) (Ev.bind ht (Ev.bind hi ?_))
    rcases hR with rfl | ⟨q1, q2, F, f1, f2⟩
    · exact ev_neg (by simp) (Ev.now _)
    · obtain ⟨w1, _, _⟩ := wordOk_parts q2
      refine ev_pos q1 (Ev.bind (a := (strOfNums F, true)) (Ev.bind (isWord_ev R.1 (by omega)) (ev_pos q2 (Ev.bind f1 (Ev.now _)))) (ev_pos rfl ?_))
      rw [show ((strOfNums F).toList == t.toList) = true by rw [f2]; exact beq_self_eq_true _]
      exact Ev.now _
  refine ev_k (ev_bindc (show laws_big.f l = some false by unfold laws_big.f; rw [decide_eq_false c0]) (ev_neg (by simp) (Ev.bind hd (Ev.bind u1 (Ev.bind u2 (ev_neg (by simp) ?_))))))
  cases c : wordOk w with
  | true =>
    refine ev_pos rfl ?_
    by_cases c1 : (u.size : Int) ≤ 60
    · rw [decide_eq_true c1]
      exact Ev.step (fun k => laws_FnPuny.j0.eq_2 _ _ _ _ _) (ev_pos rfl (Ev.bind (u3 c (by omega)) (ev_pos rfl (Ev.bind (sameInts_ev w (by omega)) (ev_pos rfl j1)))))
    · rw [decide_eq_false c1]
      exact Ev.step (fun k => laws_FnPuny.j0.eq_2 _ _ _ _ _) (ev_neg (by simp) j1)
  | false =>
    exact ev_neg (by simp) (Ev.step (fun k => laws_FnPuny.j0.eq_2 _ _ _ _ _) (ev_neg (by simp) j1))

end Go.Proofs.Ythhomopijhopfaa.Pure
