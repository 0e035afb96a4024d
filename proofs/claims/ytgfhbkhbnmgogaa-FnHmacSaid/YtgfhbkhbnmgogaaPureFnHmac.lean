/- a drawn key with bytes 0 behind it up to 64 is the same key, and a long one is its digest. -/
import Derived.Test.YtgfhbkhbnmgogaaGFnHmacx2
import Derived.Test.YtgfhbkhbnmgogaaBase
import Derived.Test.YtgfhbkhbnmgogaaGFnHmacHand
namespace Go.Proofs.Ytgfhbkhbnmgogaa.Pure
open Go.RowKit Go.Proofs.Ytgfhbkhbnmgogaa.GFnHmac Go.Proofs.YtgfhbkhbnmgogaaW.PrintWords Go.Proofs.YtgfhbkhbnmgogaaW.PrintLast Go.Proofs.Ytgfhbkhbnmgogaa.Base
set_option linter.unusedVariables false
set_option linter.unusedSimpArgs false

/-! ### draws: what the laws' generators give -/
theorem and255 (x : Int) : 0 ≤ Go.bits .and .i64 x 255 ∧ Go.bits .and .i64 x 255 ≤ 255 := by
  have h : (BitVec.ofInt 64 x &&& BitVec.ofInt 64 255).toNat ≤ 255 := by
    rw [BitVec.toNat_and]
    exact Nat.le_trans Nat.and_le_right (by decide)
  have e : Go.bits .and .i64 x 255 = IntKind.i64.wrap ((BitVec.ofInt 64 x &&& BitVec.ofInt 64 255).toNat : Int) := rfl
  rw [e]
  generalize (BitVec.ofInt 64 x &&& BitVec.ofInt 64 255).toNat = m at h
  rw [wrap_i64_id 62 (by decide) _ (by omega) (by omega)]
  omega
theorem new_ev (l : List Int) (hl : l.length ≤ 1048576) : ∃ s, Ev (fun k => spec_l1New.f k l) (l, 0, s) := by
  have H : ∀ (d i : Nat) (s : Int), i + d = 4000 → ∃ s', Ev (fun k => spec_l1New.l0 k l s (i : Int)) (l, 0, s') := by
    intro d
    induction d with
    | zero =>
      intro i s hi
      by_cases c : (i : Int) < (l.length : Int)
      · exact ⟨s, Ev.step (fun k => spec_l1New.l0.eq_2 _ _ _ _) (ev_pos c (ev_neg (by omega) (Ev.now _)))⟩
      · exact ⟨s, Ev.step (fun k => spec_l1New.l0.eq_2 _ _ _ _) (ev_neg c (Ev.now _))⟩
    | succ d ih =>
      intro i s hi
      by_cases c : (i : Int) < (l.length : Int)
      · obtain ⟨s', h⟩ := ih (i + 1) (Go.bits .and .i64 (wrap64 ((wrap64 ((wrap64 (s * 131)) + (wrap64 (rd l (i : Int))))) + 7)) 1073741823) (by omega)
        refine ⟨s', Ev.step (fun k => spec_l1New.l0.eq_2 _ _ _ _) (ev_pos c (ev_pos (by omega) (ev_pos (by omega) ?_)))⟩
        rw [w64 (x := (i : Int) + 1) (by omega) (by omega)]
        exact h
      · exact ⟨s, Ev.step (fun k => spec_l1New.l0.eq_2 _ _ _ _) (ev_neg c (Ev.now _))⟩
  exact H 4000 0 _ rfl
/-- the place in the bytes that are drawn from -/
structure At (l : List Int) (p : Int) : Prop where
  big : l.length ≤ 1048576
  lo : 0 ≤ p
  hi : p ≤ 1048576
theorem byte_some {l : List Int} {p : Int} (h : At l p) (s : Int) : ∃ b p' s', spec_l1Byte.f l p s = some (b, p', s') ∧ 0 ≤ b ∧ b ≤ 255 ∧ At l p' := by
  unfold spec_l1Byte.f
  have hb := h.big
  have h0 := h.lo
  have h1 := h.hi
  by_cases c : p < (l.length : Int)
  · rw [if_pos c, if_pos h0, w64 (x := p + 1) (by omega) (by omega)]
    exact ⟨_, _, _, rfl, (and255 _).1, (and255 _).2, ⟨hb, by omega, by omega⟩⟩
  · rw [if_neg c]
    exact ⟨_, _, _, rfl, (and255 _).1, (and255 _).2, h⟩
theorem below_some {l : List Int} {p : Int} (h : At l p) (s : Int) (a : Int) (h0 : 0 < a) (h1 : a ≤ 4294967296) : ∃ v p' s', spec_l1Below.f l p s a = some (v, p', s') ∧ 0 ≤ v ∧ v < a ∧ At l p' := by
  unfold spec_l1Below.f
  rw [if_neg (by omega)]
  by_cases c : a ≤ 256
  · rw [if_pos c]
    obtain ⟨b, p', s', e, r0, r1, h'⟩ := byte_some h s
    rw [e]
    simp only [Option.bind_some]
    rw [if_neg (by omega), Int.tmod_eq_emod_of_nonneg r0]
    exact ⟨_, _, _, rfl, Int.emod_nonneg _ (by omega), Int.emod_lt_of_pos _ h0, h'⟩
  · rw [if_neg c]
    obtain ⟨b1, p1, s1, e1, r1, q1, h1'⟩ := byte_some h s
    rw [e1]
    simp only [Option.bind_some]
    obtain ⟨b2, p2, s2, e2, r2, q2, h2'⟩ := byte_some h1' s1
    rw [e2]
    simp only [Option.bind_some]
    obtain ⟨b3, p3, s3, e3, r3, q3, h3'⟩ := byte_some h2' s2
    rw [e3]
    simp only [Option.bind_some]
    obtain ⟨b4, p4, s4, e4, r4, q4, h4'⟩ := byte_some h3' s3
    rw [e4]
    simp only [Option.bind_some]
    rw [if_neg (by omega), w64 (x := b1 * 16777216) (by omega) (by omega), w64 (x := b2 * 65536) (by omega) (by omega), w64 (x := b1 * 16777216 + b2 * 65536) (by omega) (by omega), w64 (x := b3 * 256) (by omega) (by omega),
      w64 (x := b1 * 16777216 + b2 * 65536 + b3 * 256) (by omega) (by omega), w64 (x := b1 * 16777216 + b2 * 65536 + b3 * 256 + b4) (by omega) (by omega), Int.tmod_eq_emod_of_nonneg (by omega)]
    exact ⟨_, _, _, rfl, Int.emod_nonneg _ (by omega), Int.emod_lt_of_pos _ h0, h4'⟩
theorem once_some {l : List Int} {p : Int} (h : At l p) (s : Int) (a : Int) (h0 : 0 < a) (h1 : a ≤ 4294967296) : ∃ v p' s', spec_l1Once.f l p s a = some (v, p', s') ∧ At l p' := by
  obtain ⟨v, p', s', e, _, _, h'⟩ := below_some h s a h0 h1
  unfold spec_l1Once.f
  rw [e]
  exact ⟨_, _, _, rfl, h'⟩
theorem data_ev {l : List Int} {p : Int} (h : At l p) (s : Int) (a : Int) (h0 : 0 < a) (h1 : a ≤ 256) : ∃ r p' s', Ev (fun k => spec_l5DrawData.f k l p s a) (r, p', s') ∧ At l p' ∧ r.length ≤ 256 := by
  obtain ⟨v, p', s', e, v0, v1, h'⟩ := below_some h s a h0 (by omega)
  have key : ∀ (n : Nat) (acc : List Int) (p s : Int), At l p → acc.length + n ≤ 256 → ∃ r p' s', Ev (fun k => spec_l5DrawData.l0 k acc (n : Int) l p s) (r, p', s') ∧ At l p' ∧ r.length ≤ 256 := by
    intro n
    induction n with
    | zero =>
      intro acc p s hp ha
      exact ⟨acc, p, s, Ev.step (fun k => spec_l5DrawData.l0.eq_2 _ _ _ _ _ _) (ev_neg (by omega) (Ev.now _)), hp, by omega⟩
    | succ n ih =>
      intro acc p s hp ha
      obtain ⟨b, p1, s1, e1, b0, b1, hp1⟩ := byte_some hp s
      obtain ⟨r, p2, s2, h2, h3, h4⟩ := ih (acc ++ [b % 256]) p1 s1 hp1 (by simp; omega)
      refine ⟨r, p2, s2, Ev.step (fun k => spec_l5DrawData.l0.eq_2 _ _ _ _ _ _) (ev_pos (by omega) (ev_bindc e1 (ev_pos (by omega) ?_))), h3, h4⟩
      rw [w64 (by omega) (by omega), show ((n + 1 : Nat) : Int) - 1 = (n : Int) by omega]
      exact h2
  obtain ⟨n, rfl⟩ := Int.eq_ofNat_of_zero_le v0
  obtain ⟨r, p2, s2, e2, h2, h3⟩ := key n [] p' s' h' (by simp; omega)
  exact ⟨r, p2, s2, ev_bindc e e2, h2, h3⟩
theorem drawHmac_ev (l : List Int) (hl : l.length ≤ 1048576) : ∃ key data, Ev (fun k => spec_DrawHmac.f k l) (key, data) ∧ key.length ≤ 20000 ∧ data.length ≤ 10000 := by
  obtain ⟨s0, hs0⟩ := new_ev l hl
  have a0 : At l 0 := ⟨hl, by omega, by omega⟩
  obtain ⟨d1, p1, s1, e1, a1, l1⟩ := data_ev a0 s0 20 (by omega) (by omega)
  obtain ⟨v2, p2, s2, e2, v20, v21, a2⟩ := below_some a1 s1 10 (by omega) (by omega)
  by_cases c0 : v2 = 0
  · obtain ⟨v3, p3, s3, e3, v30, v31, a3⟩ := below_some a2 s2 2 (by omega) (by omega)
    obtain ⟨d4, p4, s4, e4, a4, l4⟩ := data_ev a3 s3 60 (by omega) (by omega)
    have w3 : wrap64 (64 + v3) = 64 + v3 := w64 (by omega) (by omega)
    exact ⟨List.replicate (wrap64 (64 + v3) : Int).toNat 0, d4, Ev.bind hs0 (Ev.bind e1 (ev_bindc e2 (ev_pos c0 (ev_bindc e3 (ev_pos (by rw [w3]; omega) (ev_pos (by rw [w3]; omega) (Ev.bind e4 (Ev.now _)))))))), by rw [List.length_replicate, w3]; omega, by omega⟩
  · by_cases c1 : v2 = 1
    · obtain ⟨v3, p3, s3, e3, a3⟩ := once_some a2 s2 6 (by omega) (by omega)
      by_cases c2 : v3 = true
      · obtain ⟨v4, p4, s4, e4, v40, v41, a4⟩ := below_some a3 s3 2 (by omega) (by omega)
        obtain ⟨d5, p5, s5, e5, a5, l5⟩ := data_ev a4 s4 60 (by omega) (by omega)
        have w4 : wrap64 (10000 + v4) = 10000 + v4 := w64 (by omega) (by omega)
        exact ⟨List.replicate (wrap64 (10000 + v4) : Int).toNat 0, d5, Ev.bind hs0 (Ev.bind e1 (ev_bindc e2 (ev_neg c0 (ev_pos c1 (ev_bindc e3 (ev_pos c2 (ev_bindc e4 (ev_pos (by rw [w4]; omega) (ev_pos (by rw [w4]; omega) (Ev.bind e5 (Ev.now _))))))))))), by rw [List.length_replicate, w4]; omega, by omega⟩
      · obtain ⟨d5, p5, s5, e5, a5, l5⟩ := data_ev a3 s3 60 (by omega) (by omega)
        exact ⟨d1, d5, Ev.bind hs0 (Ev.bind e1 (ev_bindc e2 (ev_neg c0 (ev_pos c1 (ev_bindc e3 (ev_neg c2 (Ev.bind e5 (Ev.now _)))))))), by omega, by omega⟩
    · obtain ⟨d5, p5, s5, e5, a5, l5⟩ := data_ev a2 s2 60 (by omega) (by omega)
      exact ⟨d1, d5, Ev.bind hs0 (Ev.bind e1 (ev_bindc e2 (ev_neg c0 (ev_neg c1 (Ev.bind e5 (Ev.now _)))))), by omega, by omega⟩
theorem FnHmac : laws_FnHmac.Pure := by
  intro b hm _ _
  by_cases c : b.length > 1048576
  · exact ⟨0, rfl, .inl c⟩
  obtain ⟨key, data, h, h1, h2⟩ := drawHmac_ev b (by omega)
  obtain ⟨k, hk⟩ := ev_k h
  exact ⟨k, rfl, .inr ⟨by omega, key, data, hk, h1, h2⟩⟩

end Go.Proofs.Ytgfhbkhbnmgogaa.Pure
