/- Of two drawn names the comparison does not turn on the order, on spaces or on the case of letters. -/
import Derived.Test.YthhomopijhopfaaGFnNames10x2
import Derived.Test.YthhomopijhopfaaBase
namespace Go.Proofs.Ythhomopijhopfaa.Pure
open Go.RowKit Go.Proofs.Ythhomopijhopfaa.GFnNames10 Go.Proofs.YthhomopijhopfaaW.PrintWords Go.Proofs.YthhomopijhopfaaW.PrintLast Go.Proofs.Ythhomopijhopfaa.Base
set_option linter.unusedVariables false
set_option linter.unusedSimpArgs false

/-! ### draws: what the laws' generators give -/
theorem and255 (x : Int) : 0 ≤ Go.bits .and .i64 x 255 ∧ Go.bits .and .i64 x 255 ≤ 255 := by
  have h : (BitVec.ofInt 64 x &&& BitVec.ofInt 64 255).toNat ≤ 255 := by
    rw [BitVec.toNat_and]
    exact Nat.le_trans Nat.and_le_right (by decide)
  have e : Go.bits .and .i64 x 255 = IntKind.i64.wrap ((BitVec.ofInt 64 x &&& BitVec.ofInt 64 255).toNat : Int) := rfl
  rw [e]
  generalize (BitVec.ofInt 64 x &&& BitVec.ofInt 64 255).toNat = m at h
  rw [wrap_i64_id 62 (by decide) _ (by omega) (by omega)]
  omega
theorem new_ev (l : List Int) (hl : l.length ≤ 1048576) : ∃ s, Ev (fun k => spec_l1New.f k l) (l, 0, s) := by
  have H : ∀ (d i : Nat) (s : Int), i + d = 4000 → ∃ s', Ev (fun k => spec_l1New.l0 k l s (i : Int)) (l, 0, s') := by
    intro d
    induction d with
    | zero =>
      intro i s hi
      by_cases c : (i : Int) < (l.length : Int)
      · exact ⟨s, Ev.step (fun k => spec_l1New.l0.eq_2 _ _ _ _) (ev_pos c (ev_neg (by omega) (Ev.now _)))⟩
      · exact ⟨s, Ev.step (fun k => spec_l1New.l0.eq_2 _ _ _ _) (ev_neg c (Ev.now _))⟩
    | succ d ih =>
      intro i s hi
      by_cases c : (i : Int) < (l.length : Int)
      · obtain ⟨s', h⟩ := ih (i + 1) (Go.bits .and .i64 (wrap64 ((wrap64 ((wrap64 (s * 131)) + (wrap64 (rd l (i : Int))))) + 7)) 1073741823) (by omega)
        refine ⟨s', Ev.step (fun k => spec_l1New.l0.eq_2 _ _ _ _) (ev_pos c (ev_pos (by omega) (ev_pos (by omega) ?_)))⟩
        rw [w64 (x := (i : Int) + 1) (by omega) (by omega)]
        exact h
      · exact ⟨s, Ev.step (fun k => spec_l1New.l0.eq_2 _ _ _ _) (ev_neg c (Ev.now _))⟩
  exact H 4000 0 _ rfl
/-- the place in the bytes that are drawn from -/
structure At (l : List Int) (p : Int) : Prop where
  big : l.length ≤ 1048576
  lo : 0 ≤ p
  hi : p ≤ 1048576
theorem byte_some {l : List Int} {p : Int} (h : At l p) (s : Int) : ∃ b p' s', spec_l1Byte.f l p s = some (b, p', s') ∧ 0 ≤ b ∧ b ≤ 255 ∧ At l p' := by
  unfold spec_l1Byte.f
  have hb := h.big
  have h0 := h.lo
  have h1 := h.hi
  by_cases c : p < (l.length : Int)
  · rw [if_pos c, if_pos h0, w64 (x := p + 1) (by omega) (by omega)]
    exact ⟨_, _, _, rfl, (and255 _).1, (and255 _).2, ⟨hb, by omega, by omega⟩⟩
  · rw [if_neg c]
    exact ⟨_, _, _, rfl, (and255 _).1, (and255 _).2, h⟩
theorem below_some {l : List Int} {p : Int} (h : At l p) (s : Int) (a : Int) (h0 : 0 < a) (h1 : a ≤ 4294967296) : ∃ v p' s', spec_l1Below.f l p s a = some (v, p', s') ∧ 0 ≤ v ∧ v < a ∧ At l p' := by
  unfold spec_l1Below.f
  rw [if_neg (by omega)]
  by_cases c : a ≤ 256
  · rw [if_pos c]
    obtain ⟨b, p', s', e, r0, r1, h'⟩ := byte_some h s
    rw [e]
    simp only [Option.bind_some]
    rw [if_neg (by omega), Int.tmod_eq_emod_of_nonneg r0]
    exact ⟨_, _, _, rfl, Int.emod_nonneg _ (by omega), Int.emod_lt_of_pos _ h0, h'⟩
  · rw [if_neg c]
    obtain ⟨b1, p1, s1, e1, r1, q1, h1'⟩ := byte_some h s
    rw [e1]
    simp only [Option.bind_some]
    obtain ⟨b2, p2, s2, e2, r2, q2, h2'⟩ := byte_some h1' s1
    rw [e2]
    simp only [Option.bind_some]
    obtain ⟨b3, p3, s3, e3, r3, q3, h3'⟩ := byte_some h2' s2
    rw [e3]
    simp only [Option.bind_some]
    obtain ⟨b4, p4, s4, e4, r4, q4, h4'⟩ := byte_some h3' s3
    rw [e4]
    simp only [Option.bind_some]
    rw [if_neg (by omega), w64 (x := b1 * 16777216) (by omega) (by omega), w64 (x := b2 * 65536) (by omega) (by omega), w64 (x := b1 * 16777216 + b2 * 65536) (by omega) (by omega), w64 (x := b3 * 256) (by omega) (by omega),
      w64 (x := b1 * 16777216 + b2 * 65536 + b3 * 256) (by omega) (by omega), w64 (x := b1 * 16777216 + b2 * 65536 + b3 * 256 + b4) (by omega) (by omega), Int.tmod_eq_emod_of_nonneg (by omega)]
    exact ⟨_, _, _, rfl, Int.emod_nonneg _ (by omega), Int.emod_lt_of_pos _ h0, h4'⟩
def who : List (List ByteArray) := [[(⟨#[82, 111, 111, 116, 32, 79, 110, 101]⟩ : ByteArray)], [(⟨#[82, 111, 111, 116]⟩ : ByteArray), (⟨#[84, 119, 111]⟩ : ByteArray)], [(⟨#[77, 105, 100, 32, 65]⟩ : ByteArray)], [(⟨#[77, 105, 100, 32, 66]⟩ : ByteArray)], [(⟨#[76, 101, 97, 102]⟩ : ByteArray)], [(⟨#[79, 116, 104, 101, 114]⟩ : ByteArray), (⟨#[120, 32, 121]⟩ : ByteArray)]]
def firsts : List ByteArray := [(⟨#[82, 79, 79, 84, 32, 32, 111, 110, 101, 32]⟩ : ByteArray), (⟨#[109, 105, 100, 32, 97]⟩ : ByteArray), (⟨#[76, 101, 97, 102]⟩ : ByteArray), (⟨#[114, 111, 111, 116]⟩ : ByteArray)]
def lasts : List ByteArray := [(⟨#[]⟩ : ByteArray), (⟨#[32]⟩ : ByteArray)]
def mates (a : List ByteArray) : List (List ByteArray) := firsts.map (fun p => a.set 0 ((⟨#[32]⟩ : ByteArray) ++ p)) ++ (who ++ (lasts.map (fun p => a ++ [p]) ++ [a]))
def rest (k : Nat) (a b : List ByteArray) : Option Bool := (impl_NameSame.f k a b).bind fun t => laws_FnNames10.l0 k a b t [] 0
set_option maxRecDepth 100000 in
theorem all_pairs (k : Nat) : who.all (fun a => (mates a).all (fun b => rest (k + 12) a b == some true)) = true := by kernel_rfl
theorem who_some (v : Int) (h0 : 0 ≤ v) (h1 : v < 6) : ∃ x, x ∈ who ∧ spec_l10Who.f v = some x := by
  refine ⟨who.getD v.toNat [], ?_, ?_⟩
  · rw [List.getD_eq_getElem?_getD, List.getElem?_eq_getElem (show v.toNat < who.length from by simp [who]; omega)]
    exact List.getElem_mem _
  · unfold spec_l10Who.f
    simp only [Option.bind_some]
    rw [if_pos h0, if_pos (by simp; omega)]
    rfl
theorem who_len : ∀ a ∈ who, 0 < a.length ∧ a.length ≤ 2 := by decide +kernel
theorem firsts_size : ∀ p ∈ firsts, p.size ≤ 100 := by decide +kernel
theorem pickS_some {l : List Int} {p : Int} (h : At l p) (s : Int) (xs : List ByteArray) (h0 : 0 < xs.length) (h1 : xs.length ≤ 1048576) : ∃ v p' s', spec_l1Pick.f l p s xs = some (v, p', s') ∧ v ∈ xs ∧ At l p' := by
  unfold spec_l1Pick.f
  obtain ⟨v, p', s', e, r0, r1, h'⟩ := below_some h s (xs.length : Int) (by omega) (by omega)
  rw [e]
  simp only [Option.bind_some]
  rw [if_pos r0, if_pos r1]
  refine ⟨_, _, _, rfl, ?_, h'⟩
  unfold rdOf
  rw [List.getD_eq_getElem?_getD, List.getElem?_eq_getElem (show v.toNat < xs.length by omega)]
  exact List.getElem_mem _
theorem draw_ev (l : List Int) (hl : l.length ≤ 1048576) : ∃ a b, a ∈ who ∧ b ∈ mates a ∧ Ev (fun k => spec_DrawNameSame.f k l) (a, b) := by
  obtain ⟨sd, hn⟩ := new_ev l hl
  obtain ⟨v, p1, s1, e1, v0, v1, h1⟩ := below_some (l := l) (p := 0) ⟨hl, by omega, by omega⟩ sd 6 (by omega) (by omega)
  obtain ⟨a, ha, ea⟩ := who_some v v0 v1
  obtain ⟨la, lb⟩ := who_len a ha
  obtain ⟨c, p2, s2, e2, c0, c1, h2⟩ := below_some h1 s1 4 (by omega) (by omega)
  by_cases q0 : c = 0
  · obtain ⟨f, p3, s3, e3, hf, h3⟩ := pickS_some h2 s2 firsts (by decide) (by decide)
    have hz := firsts_size f hf
    refine ⟨a, a.set 0 ((⟨#[32]⟩ : ByteArray) ++ f), ha, List.mem_append_left _ (List.mem_map_of_mem hf), Ev.bind hn (ev_bindc e1 (ev_bindc ea (ev_bindc (a := []) rfl (ev_pos (by simp only [List.length_nil]; omega) (ev_bindc (a := a) rfl (ev_bindc e2 (ev_pos q0 (ev_bindc e3 (ev_pos (by simp only; omega) (ev_pos (by omega) (Ev.now _)))))))))))⟩
  · by_cases q1 : c = 1
    · obtain ⟨u, p3, s3, e3, u0, u1, h3⟩ := below_some h2 s2 6 (by omega) (by omega)
      obtain ⟨b, hb, eb⟩ := who_some u u0 u1
      exact ⟨a, b, ha, List.mem_append_right _ (List.mem_append_left _ hb), Ev.bind hn (ev_bindc e1 (ev_bindc ea (ev_bindc (a := []) rfl (ev_pos (by simp only [List.length_nil]; omega) (ev_bindc (a := a) rfl (ev_bindc e2 (ev_neg q0 (ev_pos q1 (ev_bindc e3 (ev_bindc eb (Ev.now _)))))))))))⟩
    · by_cases q2 : c = 2
      · obtain ⟨f, p3, s3, e3, hf, h3⟩ := pickS_some h2 s2 lasts (by decide) (by decide)
        exact ⟨a, a ++ [f], ha, List.mem_append_right _ (List.mem_append_right _ (List.mem_append_left _ (List.mem_map_of_mem hf))), Ev.bind hn (ev_bindc e1 (ev_bindc ea (ev_bindc (a := []) rfl (ev_pos (by simp only [List.length_nil]; omega) (ev_bindc (a := a) rfl (ev_bindc e2 (ev_neg q0 (ev_neg q1 (ev_pos q2 (ev_bindc e3 (ev_pos (by omega) (Ev.now _))))))))))))⟩
      · exact ⟨a, a, ha, List.mem_append_right _ (List.mem_append_right _ (List.mem_append_right _ (List.mem_singleton.2 rfl))), Ev.bind hn (ev_bindc e1 (ev_bindc ea (ev_bindc (a := []) rfl (ev_pos (by simp only [List.length_nil]; omega) (ev_bindc (a := a) rfl (ev_bindc e2 (ev_neg q0 (ev_neg q1 (ev_neg q2 (Ev.now _))))))))))⟩
theorem FnNames10 : laws_FnNames10.Pure := by
  intro l _ _ _
  by_cases c0 : (l.length : Int) > 1048576
  · exact ev_k (ev_bindc (show laws_big.f l = some true by unfold laws_big.f; rw [decide_eq_true c0]) (ev_pos rfl (Ev.now _)))
  have hl : l.length ≤ 1048576 := by omega
  obtain ⟨a, b, ha, hb, hd⟩ := draw_ev l hl
  have hr : Ev (fun k => rest k a b) true := by
    refine ⟨12, fun k hk => ?_⟩
    have h := List.all_eq_true.1 (List.all_eq_true.1 (all_pairs (k - 12)) a ha) b hb
    rw [Nat.sub_add_cancel hk] at h
    exact eq_of_beq h
  exact ev_k (ev_bindc (show laws_big.f l = some false by unfold laws_big.f; rw [decide_eq_false c0]) (ev_neg (by simp) (Ev.bind hd hr)))

end Go.Proofs.Ythhomopijhopfaa.Pure
