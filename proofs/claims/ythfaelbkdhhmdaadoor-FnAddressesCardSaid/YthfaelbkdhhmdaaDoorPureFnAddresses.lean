/- A drawn address comes back from its text, nets are told alike by both ends, and a text that is read as an address is written as itself. -/
import Derived.Test.YthfaelbkdhhmdaaDoorGFnAddressesx6
import Derived.Test.YthfaelbkdhhmdaaDoorBase
namespace Go.Proofs.YthfaelbkdhhmdaaDoor.Pure
open Go.RowKit Go.Proofs.YthfaelbkdhhmdaaDoor.GFnAddresses Go.Proofs.YthfaelbkdhhmdaaDoorW.PrintWords Go.Proofs.YthfaelbkdhhmdaaDoorW.PrintLast Go.Proofs.YthfaelbkdhhmdaaDoor.Base
set_option linter.unusedVariables false
set_option linter.unusedSimpArgs false

/-! ### draws: what the laws' generators give -/
theorem and255 (x : Int) : 0 ≤ Go.bits .and .i64 x 255 ∧ Go.bits .and .i64 x 255 ≤ 255 := by
  have h : (BitVec.ofInt 64 x &&& BitVec.ofInt 64 255).toNat ≤ 255 := by
    rw [BitVec.toNat_and]
    exact Nat.le_trans Nat.and_le_right (by decide)
  have e : Go.bits .and .i64 x 255 = IntKind.i64.wrap ((BitVec.ofInt 64 x &&& BitVec.ofInt 64 255).toNat : Int) := rfl
  rw [e]
  generalize (BitVec.ofInt 64 x &&& BitVec.ofInt 64 255).toNat = m at h
  rw [wrap_i64_id 62 (by decide) _ (by omega) (by omega)]
  omega
theorem new_ev (l : List Int) (hl : l.length ≤ 1048576) : ∃ s, Ev (fun k => spec_l1New.f k l) (l, 0, s) := by
  have H : ∀ (d i : Nat) (s : Int), i + d = 4000 → ∃ s', Ev (fun k => spec_l1New.l0 k l s (i : Int)) (l, 0, s') := by
    intro d
    induction d with
    | zero =>
      intro i s hi
      by_cases c : (i : Int) < (l.length : Int)
      · exact ⟨s, Ev.step (fun k => spec_l1New.l0.eq_2 _ _ _ _) (ev_pos c (ev_neg (by omega) (Ev.now _)))⟩
      · exact ⟨s, Ev.step (fun k => spec_l1New.l0.eq_2 _ _ _ _) (ev_neg c (Ev.now _))⟩
    | succ d ih =>
      intro i s hi
      by_cases c : (i : Int) < (l.length : Int)
      · obtain ⟨s', h⟩ := ih (i + 1) (Go.bits .and .i64 (wrap64 ((wrap64 ((wrap64 (s * 131)) + (wrap64 (rd l (i : Int))))) + 7)) 1073741823) (by omega)
        refine ⟨s', Ev.step (fun k => spec_l1New.l0.eq_2 _ _ _ _) (ev_pos c (ev_pos (by omega) (ev_pos (by omega) ?_)))⟩
        rw [w64 (x := (i : Int) + 1) (by omega) (by omega)]
        exact h
      · exact ⟨s, Ev.step (fun k => spec_l1New.l0.eq_2 _ _ _ _) (ev_neg c (Ev.now _))⟩
  exact H 4000 0 _ rfl
/-- the place in the bytes that are drawn from -/
structure At (l : List Int) (p : Int) : Prop where
  big : l.length ≤ 1048576
  lo : 0 ≤ p
  hi : p ≤ 1048576
theorem byte_some {l : List Int} {p : Int} (h : At l p) (s : Int) : ∃ b p' s', spec_l1Byte.f l p s = some (b, p', s') ∧ 0 ≤ b ∧ b ≤ 255 ∧ At l p' := by
  unfold spec_l1Byte.f
  have hb := h.big
  have h0 := h.lo
  have h1 := h.hi
  by_cases c : p < (l.length : Int)
  · rw [if_pos c, if_pos h0, w64 (x := p + 1) (by omega) (by omega)]
    exact ⟨_, _, _, rfl, (and255 _).1, (and255 _).2, ⟨hb, by omega, by omega⟩⟩
  · rw [if_neg c]
    exact ⟨_, _, _, rfl, (and255 _).1, (and255 _).2, h⟩
theorem below_some {l : List Int} {p : Int} (h : At l p) (s : Int) (a : Int) (h0 : 0 < a) (h1 : a ≤ 4294967296) : ∃ v p' s', spec_l1Below.f l p s a = some (v, p', s') ∧ 0 ≤ v ∧ v < a ∧ At l p' := by
  unfold spec_l1Below.f
  rw [if_neg (by omega)]
  by_cases c : a ≤ 256
  · rw [if_pos c]
    obtain ⟨b, p', s', e, r0, r1, h'⟩ := byte_some h s
    rw [e]
    simp only [Option.bind_some]
    rw [if_neg (by omega), Int.tmod_eq_emod_of_nonneg r0]
    exact ⟨_, _, _, rfl, Int.emod_nonneg _ (by omega), Int.emod_lt_of_pos _ h0, h'⟩
  · rw [if_neg c]
    obtain ⟨b1, p1, s1, e1, r1, q1, h1'⟩ := byte_some h s
    rw [e1]
    simp only [Option.bind_some]
    obtain ⟨b2, p2, s2, e2, r2, q2, h2'⟩ := byte_some h1' s1
    rw [e2]
    simp only [Option.bind_some]
    obtain ⟨b3, p3, s3, e3, r3, q3, h3'⟩ := byte_some h2' s2
    rw [e3]
    simp only [Option.bind_some]
    obtain ⟨b4, p4, s4, e4, r4, q4, h4'⟩ := byte_some h3' s3
    rw [e4]
    simp only [Option.bind_some]
    rw [if_neg (by omega), w64 (x := b1 * 16777216) (by omega) (by omega), w64 (x := b2 * 65536) (by omega) (by omega), w64 (x := b1 * 16777216 + b2 * 65536) (by omega) (by omega), w64 (x := b3 * 256) (by omega) (by omega),
      w64 (x := b1 * 16777216 + b2 * 65536 + b3 * 256) (by omega) (by omega), w64 (x := b1 * 16777216 + b2 * 65536 + b3 * 256 + b4) (by omega) (by omega), Int.tmod_eq_emod_of_nonneg (by omega)]
    exact ⟨_, _, _, rfl, Int.emod_nonneg _ (by omega), Int.emod_lt_of_pos _ h0, h4'⟩
theorem once_some {l : List Int} {p : Int} (h : At l p) (s : Int) (a : Int) (h0 : 0 < a) (h1 : a ≤ 4294967296) : ∃ v p' s', spec_l1Once.f l p s a = some (v, p', s') ∧ At l p' := by
  unfold spec_l1Once.f
  obtain ⟨v, p', s', e, _, _, h'⟩ := below_some h s a h0 h1
  rw [e]
  exact ⟨_, _, _, rfl, h'⟩
theorem pick_some {l : List Int} {p : Int} (h : At l p) (s : Int) (xs : List Int) (h0 : 0 < xs.length) (h1 : xs.length ≤ 1048576) : ∃ v p' s', spec_l1PickInt.f l p s xs = some (v, p', s') ∧ v ∈ xs ∧ At l p' := by
  unfold spec_l1PickInt.f
  obtain ⟨v, p', s', e, r0, r1, h'⟩ := below_some h s (xs.length : Int) (by omega) (by omega)
  rw [e]
  simp only [Option.bind_some]
  rw [if_pos r0, if_pos r1]
  exact ⟨_, _, _, rfl, rd_mem r0 r1, h'⟩
theorem l1In_eq (x a b : Int) : spec_l1In.f x a b = some (decide (a ≤ x ∧ x ≤ b)) := by
  unfold spec_l1In.f
  by_cases h : x ≥ a
  · rw [if_pos h]; simp [show a ≤ x from h]
  · rw [if_neg h]; simp [show ¬ a ≤ x from h]
theorem within_eq (x a b : Int) : impl_within.f x a b = some (decide (a ≤ x ∧ x ≤ b)) := l1In_eq x a b
def addr (l : List Int) : Bool := l.all (fun x => decide (0 ≤ x ∧ x ≤ 255)) && ((l.length : Int) == 4)
theorem four_ev (l : List Int) (hl : l.length ≤ 1099511627776) : Ev (fun k => spec_l8Four.f k l) (addr l) := by
  unfold addr
  rw [← all_range_rd]
  refine all_ev (L := fun k i => spec_l8Four.l0 k l i) l.length ?_ ?_ ?_
  · intro i hi hp r h
    refine Ev.step (fun k => spec_l8Four.l0.eq_2 _ _ _) (ev_pos (by omega) (ev_pos (by omega) (ev_bindc (l1In_eq _ _ _) (ev_pos hp ?_))))
    rw [w64 (by omega) (by omega)]; exact h
  · intro i hi hp
    exact Ev.step (fun k => spec_l8Four.l0.eq_2 _ _ _) (ev_pos (by omega) (ev_pos (by omega) (ev_bindc (l1In_eq _ _ _) (ev_neg (by rw [hp]; simp) (Ev.now _)))))
  · exact Ev.step (fun k => spec_l8Four.l0.eq_2 _ _ _) (ev_neg (by omega) (Ev.now _))
theorem allWithin_ev (l : List Int) (a b : Int) (hl : l.length ≤ 1099511627776) : Ev (fun k => impl_allWithin.f k l a b) (l.all (fun x => decide (a ≤ x ∧ x ≤ b))) := by
  rw [← all_range_rd, ← Bool.and_true (List.all _ _)]
  refine all_ev (L := fun k i => impl_allWithin.l0 k a b l (l.length : Int) i) l.length ?_ ?_ ?_
  · intro i hi hp r h
    refine Ev.step (fun k => impl_allWithin.l0.eq_2 _ _ _ _ _ _) (ev_pos (by omega) (ev_pos (by omega) (ev_pos (by omega) (ev_bindc (within_eq _ _ _) (ev_pos hp ?_)))))
    rw [w64 (by omega) (by omega)]; exact h
  · intro i hi hp
    exact Ev.step (fun k => impl_allWithin.l0.eq_2 _ _ _ _ _ _) (ev_pos (by omega) (ev_pos (by omega) (ev_pos (by omega) (ev_bindc (within_eq _ _ _) (ev_neg (by rw [hp]; simp) (Ev.now _))))))
  · exact Ev.step (fun k => impl_allWithin.l0.eq_2 _ _ _ _ _ _) (ev_neg (by omega) (Ev.now _))
theorem isAddress_ev (l : List Int) (hl : l.length ≤ 1099511627776) : Ev (fun k => impl_isAddress.f k l) (addr l) := by
  unfold addr
  by_cases h : (l.length : Int) = 4
  · rw [show ((l.length : Int) == 4) = true by simpa using h, Bool.and_true]
    exact ev_pos h (Ev.bind (allWithin_ev l 0 255 hl) (Ev.now _))
  · rw [show ((l.length : Int) == 4) = false by simpa using h, Bool.and_false]
    exact ev_neg h (Ev.now _)
def num (l : List Int) : Nat := ((rd l 0) * 16777216 + (rd l 1) * 65536 + (rd l 2) * 256 + rd l 3).toNat
theorem addr_num {l : List Int} (h : addr l = true) : l.length = 4 ∧ (num l : Int) = (rd l 0) * 16777216 + (rd l 1) * 65536 + (rd l 2) * 256 + rd l 3 ∧ num l < 4294967296 ∧
    (0 ≤ rd l 0 ∧ rd l 0 ≤ 255) ∧ (0 ≤ rd l 1 ∧ rd l 1 ≤ 255) ∧ (0 ≤ rd l 2 ∧ rd l 2 ≤ 255) ∧ (0 ≤ rd l 3 ∧ rd l 3 ≤ 255) := by
  unfold addr at h
  simp only [Bool.and_eq_true, List.all_eq_true, decide_eq_true_eq, beq_iff_eq] at h
  obtain ⟨h1, h2⟩ := h
  have a0 := h1 _ (rd_mem (xs := l) (i := 0) (by omega) (by omega))
  have a1 := h1 _ (rd_mem (xs := l) (i := 1) (by omega) (by omega))
  have a2 := h1 _ (rd_mem (xs := l) (i := 2) (by omega) (by omega))
  have a3 := h1 _ (rd_mem (xs := l) (i := 3) (by omega) (by omega))
  unfold num
  refine ⟨by omega, by omega, by omega, a0, a1, a2, a3⟩
theorem number_eq {l : List Int} (h : addr l = true) : impl_number.f l = some (num l : Int) := by
  obtain ⟨hl, hn, _, h0, h1, h2, h3⟩ := addr_num h
  unfold impl_number.f
  rw [if_pos (by omega), if_pos (by omega), if_pos (by omega), if_pos (by omega), hn]
  rw [w64 (x := rd l 0 * 16777216) (by omega) (by omega), w64 (x := rd l 1 * 65536) (by omega) (by omega), w64 (x := rd l 2 * 256) (by omega) (by omega)]
  rw [or_add 24 (x := rd l 0 * 16777216) (y := rd l 1 * 65536) (by omega) (by omega) (by omega) (by omega) (by omega) (by omega), or_add 16 (x := rd l 0 * 16777216 + rd l 1 * 65536) (y := rd l 2 * 256) (by omega) (by omega) (by omega) (by omega) (by omega) (by omega), or_add 8 (y := rd l 3) (by omega) (by omega) (by omega) (by omega) (by omega) (by omega)]
theorem shr_nat (a : Nat) (s : Nat) (hs : s ≤ 64) : shr .i64 (a : Int) (s : Int) = ((a >>> s : Nat) : Int) := by
  unfold shr
  rw [Int.toNat_natCast, Nat.min_eq_left (by simpa [IntKind.bits] using hs), Nat.shiftRight_eq_div_pow]
  simp
theorem shift_same (a b : Nat) (ha : a < 4294967296) (hb : b < 4294967296) (s : Nat) (hs : s ≤ 64) :
    (shr .i64 (Go.bits .xor .i64 (a : Int) (b : Int)) (s : Int) == 0) = (shr .i64 (a : Int) (s : Int) == shr .i64 (b : Int) (s : Int)) := by
  rw [xor_nat a b (by omega) (by omega), shr_nat _ s hs, shr_nat _ s hs, shr_nat _ s hs, Nat.shiftRight_xor_distrib, Bool.eq_iff_iff, beq_iff_eq, beq_iff_eq]
  constructor
  · intro h
    have := nat_xor_zero (Int.natCast_eq_zero.1 h)
    rw [this]
  · intro h
    rw [Int.ofNat.inj h]; simp
def same (l : List Int) (b : Int) (m : List Int) : Bool := addr l && addr m && decide (0 ≤ b ∧ b ≤ 32) && (shr .i64 (num l : Int) (32 - b) == shr .i64 (num m : Int) (32 - b))
theorem impl_inNet (l : List Int) (b : Int) (m : List Int) (hl : l.length ≤ 1099511627776) (hm : m.length ≤ 1099511627776) : Ev (fun k => impl_InNet.f k l b m) (same l b m) := by
  unfold same
  refine Ev.bind (isAddress_ev l hl) ?_
  cases h1 : addr l with
  | false => exact ev_neg (by simp) (Ev.now _)
  | true =>
    refine ev_pos rfl (Ev.bind (isAddress_ev m hm) ?_)
    cases h2 : addr m with
    | false => exact ev_neg (by simp) (Ev.now _)
    | true =>
      refine ev_pos rfl (ev_bindc (within_eq _ _ _) ?_)
      by_cases h3 : 0 ≤ b ∧ b ≤ 32
      · rw [decide_eq_true h3]
        refine ev_pos rfl (ev_bindc (number_eq h1) (ev_bindc (number_eq h2) ?_))
        rw [w64 (by omega) (by omega)]
        refine ev_pos (by omega) ?_
        obtain ⟨s, hs⟩ := Int.eq_ofNat_of_zero_le (show 0 ≤ 32 - b by omega)
        rw [hs, shift_same _ _ (addr_num h1).2.2.1 (addr_num h2).2.2.1 s (by omega)]
        simpa using Ev.now _
      · rw [decide_eq_false h3]; exact ev_neg (by simp) (by simpa using Ev.now _)
def tell (v : Int) : ByteArray := ⟨(Lib.itoa v).toArray⟩
set_option maxRecDepth 100000 in
theorem told_all (k : Nat) : (List.range 256).all (fun v => decide (spec_l1Told.f (k + 5) (v : Int) = some (tell (v : Int)))) = true := by kernel_rfl
set_option maxRecDepth 100000 in
theorem tell_size_all : (List.range 256).all (fun v => decide ((tell (v : Int)).size ≤ 3)) = true := by decide +kernel
theorem told_ev (v : Int) (h0 : 0 ≤ v) (h1 : v ≤ 255) : Ev (fun k => spec_l1Told.f k v) (tell v) := by
  refine ⟨5, fun k hk => ?_⟩
  have h := List.all_eq_true.1 (told_all (k - 5)) v.toNat (List.mem_range.2 (by omega))
  rw [Nat.sub_add_cancel hk, show ((v.toNat : Nat) : Int) = v by omega] at h
  exact of_decide_eq_true h
theorem tell_size (v : Int) (h0 : 0 ≤ v) (h1 : v ≤ 255) : (tell v).size ≤ 3 := by
  have h := List.all_eq_true.1 tell_size_all v.toNat (List.mem_range.2 (by omega))
  rw [show ((v.toNat : Nat) : Int) = v by omega] at h
  exact of_decide_eq_true h
theorem itoa_eq (v : Int) (h0 : 0 ≤ v) (h1 : v ≤ 255) : Hand.strconv_Itoa.f v = some (tell v) := by
  unfold Hand.strconv_Itoa.f
  rw [if_pos h0, if_pos h1]
  rfl
def dot : ByteArray := ⟨#[46]⟩
def text (a b c d : ByteArray) : ByteArray := ((((((a ++ dot) ++ b) ++ dot) ++ c) ++ dot) ++ d)
theorem join_text (a b c d : ByteArray) : (⟨(Lib.join ([a, b, c, d].map (·.data.toList)) dot.data.toList).toArray⟩ : ByteArray) = text a b c d := by
  apply ByteArray.ext
  apply Array.ext'
  simp [text, Lib.join, dot, ByteArray.data_append, Array.toList_append]
theorem addr_four (l : List Int) (h : addr l = true) : ∃ a b c d, l = [a, b, c, d] ∧ (0 ≤ a ∧ a ≤ 255) ∧ (0 ≤ b ∧ b ≤ 255) ∧ (0 ≤ c ∧ c ≤ 255) ∧ (0 ≤ d ∧ d ≤ 255) := by
  unfold addr at h
  rw [Bool.and_eq_true, List.all_eq_true] at h
  obtain ⟨h1, h2⟩ := h
  have h2 := eq_of_beq h2
  match l, h1, h2 with
  | [a, b, c, d], h1, _ =>
    exact ⟨a, b, c, d, rfl, of_decide_eq_true (h1 a (by simp)), of_decide_eq_true (h1 b (by simp)), of_decide_eq_true (h1 c (by simp)), of_decide_eq_true (h1 d (by simp))⟩
def wres (l : List Int) : ByteArray × Bool := if addr l = true then (text (tell (rd l 0)) (tell (rd l 1)) (tell (rd l 2)) (tell (rd l 3)), true) else (⟨#[]⟩, false)
theorem dot_size : dot.size = 1 := rfl
theorem wspec_ev (l : List Int) (hl : l.length ≤ 1048576) : Ev (fun k => spec_WriteAddress.f k l) (wres l) := by
  refine Ev.bind (four_ev l (by omega)) ?_
  unfold wres
  cases h : addr l with
  | false => exact ev_neg (by simp) (Ev.now _)
  | true =>
    obtain ⟨a, b, c, d, rfl, ha, hb, hc, hd⟩ := addr_four l h
    have sa := tell_size a ha.1 ha.2
    have sb := tell_size b hb.1 hb.2
    have sc := tell_size c hc.1 hc.2
    have sd := tell_size d hd.1 hd.2
    have ea := told_ev a ha.1 ha.2
    have eb := told_ev b hb.1 hb.2
    have ec := told_ev c hc.1 hc.2
    have ed := told_ev d hd.1 hd.2
    rw [if_pos rfl]
    have r0 : rd [a, b, c, d] 0 = a := rfl
    have r1 : rd [a, b, c, d] 1 = b := rfl
    have r2 : rd [a, b, c, d] 2 = c := rfl
    have r3 : rd [a, b, c, d] 3 = d := rfl
    rw [r0, r1, r2, r3]
    generalize tell a = ta at *
    generalize tell b = tb at *
    generalize tell c = tc at *
    generalize tell d = td at *
    have ds : (⟨#[46]⟩ : ByteArray).size = 1 := rfl
    exact ev_pos rfl (ev_pos (by simp) (Ev.bind ea (ev_pos (by omega) (ev_pos (by simp) (Ev.bind eb (ev_pos (by rw [ByteArray.size_append]; omega) (ev_pos (by simp only [ByteArray.size_append]; omega) (ev_pos (by simp)
      (Ev.bind ec (ev_pos (by simp only [ByteArray.size_append]; omega) (ev_pos (by simp only [ByteArray.size_append]; omega) (ev_pos (by simp) (Ev.bind ed (ev_pos (by simp only [ByteArray.size_append]; omega) (Ev.now _)))))))))))))))
theorem wimpl_ev (l : List Int) (hl : l.length ≤ 1048576) : Ev (fun k => impl_WriteAddress.f k l) (wres l) := by
  refine Ev.bind (isAddress_ev l (by omega)) ?_
  unfold wres
  cases h : addr l with
  | false => exact ev_neg (by simp) (Ev.now _)
  | true =>
    obtain ⟨a, b, c, d, rfl, ha, hb, hc, hd⟩ := addr_four l h
    have sa := tell_size a ha.1 ha.2
    have sb := tell_size b hb.1 hb.2
    have sc := tell_size c hc.1 hc.2
    have sd := tell_size d hd.1 hd.2
    have ea := itoa_eq a ha.1 ha.2
    have eb := itoa_eq b hb.1 hb.2
    have ec := itoa_eq c hc.1 hc.2
    have ed := itoa_eq d hd.1 hd.2
    rw [if_pos rfl]
    have r0 : rd [a, b, c, d] 0 = a := rfl
    have r1 : rd [a, b, c, d] 1 = b := rfl
    have r2 : rd [a, b, c, d] 2 = c := rfl
    have r3 : rd [a, b, c, d] 3 = d := rfl
    rw [r0, r1, r2, r3]
    have hj : Hand.strings_Join.f [tell a, tell b, tell c, tell d] dot = some (text (tell a) (tell b) (tell c) (tell d)) := by
      have e := join_text (tell a) (tell b) (tell c) (tell d)
      have el : (Lib.join ([tell a, tell b, tell c, tell d].map (·.data.toList)) dot.data.toList).length ≤ 100000 := by
        have : (text (tell a) (tell b) (tell c) (tell d)).size ≤ 100000 := by
          simp only [text, ByteArray.size_append, dot_size]
          omega
        rw [← e] at this
        simpa [ByteArray.size] using this
      unfold Hand.strings_Join.f
      rw [if_pos (by simp), if_pos (by simp), if_pos el, e]
    have lp : ∀ (x4 : List ByteArray) (i : Int) (t : ByteArray) (z : ByteArray × Bool), 0 ≤ i → i < 4 → x4.length ≤ 4 → Hand.strconv_Itoa.f (rd [a, b, c, d] i) = some t → Ev (fun k => impl_WriteAddress.l0 k (x4 ++ [t]) [a, b, c, d] ([a, b, c, d].length : Int) (i + 1)) z → Ev (fun k => impl_WriteAddress.l0 k x4 [a, b, c, d] ([a, b, c, d].length : Int) i) z := by
      intro x4 i t z i0 i1 hx ht hz
      refine Ev.step (fun _ => impl_WriteAddress.l0.eq_2 _ _ _ _ _) (ev_pos (by simp; omega) (ev_pos i0 (ev_pos (by simp; omega) (ev_bindc ht (ev_pos (by omega) ?_)))))
      rw [w64 (by omega) (by omega)]
      exact hz
    refine ev_pos rfl (lp [] 0 _ _ (by omega) (by omega) (by simp) ea (lp _ (0 + 1) _ _ (by omega) (by omega) (by simp) eb (lp _ (0 + 1 + 1) _ _ (by omega) (by omega) (by simp) ec (lp _ (0 + 1 + 1 + 1) _ _ (by omega) (by omega) (by simp) ed ?_))))
    exact Ev.step (fun _ => impl_WriteAddress.l0.eq_2 _ _ _ _ _) (ev_neg (by simp) (ev_bindc hj (Ev.now _)))
/-! ### strings as lists of bytes -/
def S (l : List UInt8) : ByteArray := ⟨l.toArray⟩
theorem S_data (s : ByteArray) : S s.data.toList = s := by unfold S; simp
theorem S_size (l : List UInt8) : (S l).size = l.length := by unfold S ByteArray.size; simp
theorem S_list (l : List UInt8) : (S l).toList = l := by rw [ByteArray.toList_eq]; unfold S; simp
theorem S_dataList (l : List UInt8) : (S l).data.toList = l := by unfold S; simp
theorem dl_size (s : ByteArray) : s.data.toList.length = s.size := by rw [Array.length_toList]; rfl
theorem S_bt (l : List UInt8) (i : Nat) (h : i < l.length) : bt (S l) (i : Int) = ((l[i].toNat : Nat) : Int) := by
  have hs : i < (S l).size := by rw [S_size]; exact h
  unfold bt
  rw [dif_pos (by simpa using hs)]
  simp [S, ByteArray.getElem_eq_getElem_data]
theorem S_ext (l : List UInt8) (a b : Nat) : (S l).extract a b = S ((l.take b).drop a) := by
  apply ByteArray.ext
  rw [ByteArray.data_extract]
  unfold S
  simp [List.take_drop]
  by_cases h : a ≤ b
  · rw [show a + (b - a) = b by omega]
  · rw [List.drop_eq_nil_of_le (by simp <;> omega), List.drop_eq_nil_of_le (by simp <;> omega)]
theorem bd (x y : List UInt8) : (x == y) = decide (x = y) := by rw [Bool.eq_iff_iff]; simp
theorem u46 (b : UInt8) : ((b.toNat : Nat) : Int) = 46 ↔ b = 46 := by
  constructor
  · intro h
    apply UInt8.toNat_inj.1
    show b.toNat = 46
    omega
  · rintro rfl
    rfl
/-! ### the parts of a text between points -/
def spl : List UInt8 → List (List UInt8)
  | [] => [[]]
  | b :: l => if b = 46 then [] :: spl l else (b :: (spl l).headD []) :: (spl l).tail
def att (p : List UInt8) (L : List (List UInt8)) : List (List UInt8) := (p ++ L.headD []) :: L.tail
theorem spl_ne (l : List UInt8) : spl l ≠ [] := by
  cases l with
  | nil => simp [spl]
  | cons b l => rw [spl]; split <;> simp
theorem att_nil (l : List UInt8) : att [] (spl l) = spl l := by
  have := spl_ne l
  unfold att
  cases h : spl l with
  | nil => exact absurd h this
  | cons a t => simp
theorem att_pt (p l : List UInt8) : att p (spl (46 :: l)) = p :: spl l := by simp [att, spl]
theorem att_other (p l : List UInt8) (b : UInt8) (h : ¬ b = 46) : att p (spl (b :: l)) = att (p ++ [b]) (spl l) := by simp [att, spl, h]
theorem spl_length (l : List UInt8) : (spl l).length = l.count 46 + 1 := by
  induction l with
  | nil => rfl
  | cons b l ih =>
    rw [spl]
    have := spl_ne l
    have hp : 0 < (spl l).length := List.length_pos_iff.2 this
    by_cases c : b = 46
    · subst c
      simp [ih]
    · simp only [if_neg c, List.length_cons, List.length_tail]
      rw [List.count_cons_of_ne (by simpa using c)]
      omega
theorem spl_none (l : List UInt8) (h : (46 : UInt8) ∉ l) : spl l = [l] := by
  induction l with
  | nil => rfl
  | cons b l ih =>
    have h1 : ¬ b = 46 := fun e => h (by simp [e])
    have h2 : (46 : UInt8) ∉ l := fun e => h (by simp [e])
    rw [spl, if_neg h1, ih h2]
    simp
theorem spl_some (a b : List UInt8) (h : (46 : UInt8) ∉ a) : spl (a ++ 46 :: b) = a :: spl b := by
  induction a with
  | nil => simp [spl]
  | cons x a ih =>
    have h1 : ¬ x = 46 := fun e => h (by simp [e])
    have h2 : (46 : UInt8) ∉ a := fun e => h (by simp [e])
    rw [List.cons_append, spl, if_neg h1, ih h2]
    simp
theorem ix_none (l : List UInt8) (h : (46 : UInt8) ∉ l) : Lib.indexByte l 46 = -1 := by
  induction l with
  | nil => rfl
  | cons b l ih =>
    have h1 : ¬ b = 46 := fun e => h (by simp [e])
    have h2 : (46 : UInt8) ∉ l := fun e => h (by simp [e])
    rw [Lib.indexByte, if_neg (by simpa using h1), ih h2]
    rfl
theorem ix_some (a b : List UInt8) (h : (46 : UInt8) ∉ a) : Lib.indexByte (a ++ 46 :: b) 46 = (a.length : Int) := by
  induction a with
  | nil => simp [Lib.indexByte]
  | cons x a ih =>
    have h1 : ¬ x = 46 := fun e => h (by simp [e])
    have h2 : (46 : UInt8) ∉ a := fun e => h (by simp [e])
    rw [List.cons_append, Lib.indexByte, if_neg (by simpa using h1), ih h2, if_neg (by simp <;> omega)]
    simp
theorem index_pt (s : ByteArray) : Hand.stringslite_Index.f s (⟨#[46]⟩ : ByteArray) = some (Lib.indexByte s.data.toList 46) := rfl
theorem first_pt (l : List UInt8) : (46 : UInt8) ∉ l ∨ ∃ a b, l = a ++ 46 :: b ∧ (46 : UInt8) ∉ a := by
  by_cases h : (46 : UInt8) ∈ l
  · obtain ⟨a, b, e, h2⟩ := List.eq_append_cons_of_mem h
    exact .inr ⟨a, b, e, h2⟩
  · exact .inl h
def splN : Nat → List UInt8 → List (List UInt8)
  | 0, l => [l]
  | n + 1, l => if (46 : UInt8) ∈ l then l.takeWhile (fun x => x != 46) :: splN n ((l.dropWhile (fun x => x != 46)).drop 1) else [l]
theorem splN_some (n : Nat) (a b : List UInt8) (h : (46 : UInt8) ∉ a) : splN (n + 1) (a ++ 46 :: b) = a :: splN n b := by
  have h1 : ∀ x ∈ a, (x != 46) = true := fun x hx => by
    simp only [bne_iff_ne, ne_eq]
    rintro rfl
    exact h hx
  rw [splN, if_pos (by simp), List.takeWhile_append_of_pos h1, List.dropWhile_append_of_pos h1]
  simp
theorem splN_none (n : Nat) (l : List UInt8) (h : (46 : UInt8) ∉ l) : splN n l = [l] := by
  cases n with
  | zero => rfl
  | succ n => rw [splN, if_neg h]
theorem splN_all : ∀ (n : Nat) (l : List UInt8), l.count 46 ≤ n → splN n l = spl l := by
  intro n
  induction n with
  | zero =>
    intro l h
    have : (46 : UInt8) ∉ l := List.count_eq_zero.1 (by omega)
    rw [spl_none l this]
    rfl
  | succ n ih =>
    intro l h
    rcases first_pt l with h1 | ⟨a, b, rfl, h2⟩
    · rw [splN_none _ _ h1, spl_none l h1]
    · rw [splN_some _ _ _ h2, spl_some _ _ h2, ih]
      rw [List.count_append, List.count_cons_self] at h
      omega
theorem gen_l0 (m : Nat) (hm : m ≤ 1048577) : ∀ (j : Nat) (l : List UInt8) (done : List ByteArray), done.length + j = m → l.length ≤ 1048576 →
    Ev (fun k => strings_genSplit.l0 k (S l) (⟨#[46]⟩ : ByteArray) 0 (m : Int) (done ++ List.replicate (j + 1) (⟨#[]⟩ : ByteArray)) (done.length : Int)) (done ++ (splN j l).map S) := by
  intro j
  induction j with
  | zero =>
    intro l done hj hl
    have e1 : Aside0 (wrap64 ((done.length : Int) + 1) = ((done.length + 1 : Nat) : Int)) := ⟨by rw [w64 (by omega) (by omega)]; rfl⟩
    refine Ev.step (fun k => strings_genSplit.l0.eq_2 _ _ _ _ _ _ _) (ev_neg (by omega) (ev_pos (by omega) (ev_pos (by simp <;> omega) ?_)))
    rw [e1.out]
    refine ev_pos (by omega) (ev_pos (by simp) ?_)
    rw [Int.toNat_natCast, Int.toNat_natCast]
    have : ((done ++ List.replicate (0 + 1) (⟨#[]⟩ : ByteArray)).set done.length (S l)).take (done.length + 1) = done ++ (splN 0 l).map S := by
      rw [List.set_append_right _ _ (Nat.le_refl _), Nat.sub_self]
      simp only [List.replicate_succ, List.replicate_zero, List.set_cons_zero, splN, List.map_cons, List.map_nil]
      exact List.take_of_length_le (by simp)
    rw [this]
    exact Ev.now _
  | succ j ih =>
    intro l done hj hl
    have e1 : Aside0 (wrap64 ((done.length : Int) + 1) = ((done.length + 1 : Nat) : Int)) := ⟨by rw [w64 (by omega) (by omega)]; rfl⟩
    rcases first_pt l with h1 | ⟨a, b, rfl, h2⟩
    · rw [splN_none _ _ h1]
      refine Ev.step (fun k => strings_genSplit.l0.eq_2 _ _ _ _ _ _ _) (ev_pos (by omega) (ev_bindc (a := -1) ?_ (ev_pos (by omega) (ev_pos (by omega) (ev_pos (by simp <;> omega) ?_)))))
      · unfold strings_Index.f
        rw [index_pt, S_dataList, ix_none l h1]
        rfl
      · rw [e1.out]
        refine ev_pos (by omega) (ev_pos (by simp <;> omega) ?_)
        rw [Int.toNat_natCast, Int.toNat_natCast]
        have : ((done ++ List.replicate (j + 1 + 1) (⟨#[]⟩ : ByteArray)).set done.length (S l)).take (done.length + 1) = done ++ [l].map S := by
          rw [List.set_append_right _ _ (Nat.le_refl _), Nat.sub_self, List.replicate_succ, List.set_cons_zero]
          rw [show ∀ X : List ByteArray, done ++ S l :: X = (done ++ [S l]) ++ X from fun X => by simp, show done.length + 1 = (done ++ [S l]).length by simp, List.take_left]
          rfl
        rw [this]
        exact Ev.now _
    · rw [splN_some _ _ _ h2]
      simp only [List.length_append, List.length_cons] at hl
      have := ih b (done ++ [S a]) (by simp <;> omega) (by omega)
      refine Ev.step (fun k => strings_genSplit.l0.eq_2 _ _ _ _ _ _ _) (ev_pos (by omega) (ev_bindc (a := (a.length : Int)) ?_ ?_))
      · unfold strings_Index.f
        rw [index_pt, S_dataList, ix_some a b h2]
        rfl
      · have e2 : Aside0 (wrap64 ((a.length : Int) + 0) = (a.length : Int)) := ⟨by rw [w64 (by omega) (by omega)]; omega⟩
        have e3 : Aside0 (wrap64 ((a.length : Int) + (((⟨#[46]⟩ : ByteArray).size : Nat) : Int)) = ((a.length + 1 : Nat) : Int)) := ⟨by show wrap64 ((a.length : Int) + 1) = _; rw [w64 (by omega) (by omega)]; rfl⟩
        refine ev_neg (by omega) ?_
        simp only [e2.out, e3.out, e1.out]
        refine ev_pos (by omega) (ev_pos (by rw [S_size]; simp <;> omega) (ev_pos (by omega) (ev_pos (by simp <;> omega) (ev_pos (by omega) (ev_pos (by rw [S_size]; simp <;> omega) ?_)))))
        rw [Int.toNat_natCast, Int.toNat_natCast, Int.toNat_natCast, S_ext, S_ext, S_size, List.take_length]
        have q1 : (a ++ 46 :: b).drop (a.length + 1) = b := by
          rw [show a ++ 46 :: b = (a ++ [46]) ++ b by simp, show a.length + 1 = (a ++ [46]).length by simp, List.drop_left]
        have q2 : ((a ++ 46 :: b).take a.length).drop 0 = a := by rw [List.take_left]; rfl
        have q3 : (done ++ List.replicate (j + 1 + 1) (⟨#[]⟩ : ByteArray)).set done.length (S a) = (done ++ [S a]) ++ List.replicate (j + 1) (⟨#[]⟩ : ByteArray) := by
          rw [List.set_append_right _ _ (Nat.le_refl _), Nat.sub_self]
          simp [List.replicate_succ]
        rw [q1, q2, q3]
        simp only [List.length_append, List.length_cons, List.length_nil, List.append_assoc, List.cons_append, List.nil_append, List.map_cons] at this ⊢
        exact this
/-! ### words of an address -/
def vl (l : List UInt8) : Int := l.foldl (fun n b => 10 * n + ((b.toNat : Int) - 48)) 0
def dgL (l : List UInt8) : Bool := l.all (fun b => decide (48 ≤ b.toNat ∧ b.toNat ≤ 57)) && decide (0 < l.length)
def swL (l : List UInt8) : Option Int := if dgL l = true then (if 3 < l.length then none else (if 1 < l.length ∧ l.head? = some 48 then none else (if 255 < vl l then none else some (vl l)))) else none
def isOk (z : Lib.NumEnd Int) (v : Int) : Bool := match z with | .ok u => u == v | _ => false
theorem isOk_eq {z : Lib.NumEnd Int} {v : Int} (h : isOk z v = true) : z = .ok v := by
  cases z with
  | ok u => rw [eq_of_beq (show (u == v) = true from h)]
  | «syntax» => cases h
  | range => cases h
set_option maxRecDepth 100000 in
theorem tells : (List.range 256).all (fun v => decide (swL (Lib.itoa (v : Int)) = some (v : Int)) && isOk (Lib.atoiAll (Lib.itoa (v : Int))) (v : Int) && decide ((Lib.itoa (v : Int)).length ≤ 3)) = true := by decide +kernel
theorem tell3 (v : Int) (h0 : 0 ≤ v) (h1 : v ≤ 255) : swL (Lib.itoa v) = some v ∧ Lib.atoiAll (Lib.itoa v) = .ok v ∧ (Lib.itoa v).length ≤ 3 := by
  have h := List.all_eq_true.1 tells v.toNat (List.mem_range.2 (by omega))
  rw [show ((v.toNat : Nat) : Int) = v by omega, Bool.and_eq_true, Bool.and_eq_true] at h
  exact ⟨of_decide_eq_true h.1.1, isOk_eq h.1.2, of_decide_eq_true h.2⟩
def good (l : List UInt8) : Bool := match swL l with | some v => decide (0 ≤ v ∧ v ≤ 255) && decide (Lib.itoa v = l) | none => true
def dig (i : Nat) : UInt8 := UInt8.ofNat (48 + i)
set_option maxRecDepth 100000 in
theorem goods1 : (List.range 10).all (fun i => good [dig i]) = true := by decide +kernel
set_option maxRecDepth 100000 in
theorem goods2 : (List.range 10).all (fun i => (List.range 10).all (fun j => good [dig i, dig j])) = true := by decide +kernel
set_option maxRecDepth 100000 in
theorem goods3 : (List.range 10).all (fun i => (List.range 10).all (fun j => (List.range 10).all (fun k => good [dig i, dig j, dig k]))) = true := by decide +kernel
theorem dig_of (b : UInt8) (h : 48 ≤ b.toNat ∧ b.toNat ≤ 57) : ∃ i, i < 10 ∧ b = dig i := by
  refine ⟨b.toNat - 48, by omega, ?_⟩
  apply UInt8.toNat_inj.1
  unfold dig
  rw [UInt8.toNat_ofNat']
  omega
theorem good_of (l : List UInt8) : good l = true := by
  cases c : dgL l with
  | false =>
    unfold good swL
    rw [c]
    rfl
  | true =>
    unfold dgL at c
    rw [Bool.and_eq_true, List.all_eq_true] at c
    obtain ⟨c1, c2⟩ := c
    have c2 := of_decide_eq_true c2
    match l, c1, c2 with
    | [a], c1, _ =>
      obtain ⟨i, hi, rfl⟩ := dig_of a (of_decide_eq_true (c1 a (by simp)))
      exact List.all_eq_true.1 goods1 i (List.mem_range.2 hi)
    | [a, b], c1, _ =>
      obtain ⟨i, hi, rfl⟩ := dig_of a (of_decide_eq_true (c1 a (by simp)))
      obtain ⟨j, hj, rfl⟩ := dig_of b (of_decide_eq_true (c1 b (by simp)))
      exact List.all_eq_true.1 (List.all_eq_true.1 goods2 i (List.mem_range.2 hi)) j (List.mem_range.2 hj)
    | [a, b, c], c1, _ =>
      obtain ⟨i, hi, rfl⟩ := dig_of a (of_decide_eq_true (c1 a (by simp)))
      obtain ⟨j, hj, rfl⟩ := dig_of b (of_decide_eq_true (c1 b (by simp)))
      obtain ⟨k, hk, rfl⟩ := dig_of c (of_decide_eq_true (c1 c (by simp)))
      exact List.all_eq_true.1 (List.all_eq_true.1 (List.all_eq_true.1 goods3 i (List.mem_range.2 hi)) j (List.mem_range.2 hj)) k (List.mem_range.2 hk)
    | a :: b :: c :: d :: r, c1, _ =>
      unfold good swL
      have : (if dgL (a :: b :: c :: d :: r) = true then (if 3 < (a :: b :: c :: d :: r).length then none else (if 1 < (a :: b :: c :: d :: r).length ∧ (a :: b :: c :: d :: r).head? = some 48 then none else (if 255 < vl (a :: b :: c :: d :: r) then none else some (vl (a :: b :: c :: d :: r))))) else none) = none := by
        split
        · rw [if_pos (by simp)]
        · rfl
      rw [this]
theorem sw_tell (l : List UInt8) (v : Int) (h : swL l = some v) : (0 ≤ v ∧ v ≤ 255) ∧ Lib.itoa v = l := by
  have g := good_of l
  unfold good at g
  rw [h] at g
  rw [Bool.and_eq_true] at g
  exact ⟨of_decide_eq_true g.1, of_decide_eq_true g.2⟩
theorem S_inj {a b : List UInt8} (h : S a = S b) : a = b := by
  have := congrArg (fun s => s.data.toList) h
  simpa [S] using this
/-! ### the two loops over the words -/
def run : List (List UInt8) → List Int → List Int × Bool
  | [], acc => if (acc.length : Int) = 4 then (acc, true) else ([], false)
  | t :: r, acc => match swL t with
    | some v => run r (acc ++ [v])
    | none => ([], false)
theorem run_len : ∀ (X : List (List UInt8)) (acc : List Int), acc.length + X.length ≠ 4 → run X acc = ([], false)
  | [], acc, h => by
    unfold run
    rw [if_neg (by simp at h; omega)]
  | t :: r, acc, h => by
    unfold run
    cases c : swL t with
    | none => rfl
    | some v => exact run_len r (acc ++ [v]) (by simp at h ⊢; omega)
theorem run_all : ∀ (X : List (List UInt8)) (acc : List Int), (∀ x ∈ X, x.length ≤ 3) ∨ run X acc = ([], false)
  | [], _ => .inl (fun _ h => by cases h)
  | t :: r, acc => by
    unfold run
    cases c : swL t with
    | none => exact .inr rfl
    | some v =>
      rcases run_all r (acc ++ [v]) with h | h
      · refine .inl fun x hx => ?_
        rcases List.mem_cons.1 hx with rfl | hx
        · obtain ⟨h1, h2⟩ := sw_tell x v c
          rw [← h2]
          exact (tell3 v h1.1 h1.2).2.2
        · exact h x hx
      · exact .inr h
theorem spl_bound : ∀ (n : Nat) (l : List UInt8), l.length ≤ n → (∀ x ∈ spl l, x.length ≤ 3) → l.length + 1 ≤ 4 * (spl l).length := by
  intro n
  induction n with
  | zero =>
    intro l hl _
    have := spl_length l
    omega
  | succ n ih =>
    intro l hl h
    rcases first_pt l with h1 | ⟨a, b, rfl, h2⟩
    · rw [spl_none l h1] at h ⊢
      have := h l (by simp)
      simp
      omega
    · rw [spl_some _ _ h2] at h ⊢
      have ha := h a (by simp)
      have hb := ih b (by simp at hl; omega) (fun x hx => h x (by simp [hx]))
      simp at hb ⊢
      omega
theorem splN_len : ∀ (n : Nat) (l : List UInt8), n ≤ l.count 46 → (splN n l).length = n + 1 := by
  intro n
  induction n with
  | zero => intro l _; rfl
  | succ n ih =>
    intro l h
    rcases first_pt l with h1 | ⟨a, b, rfl, h2⟩
    · have := List.count_eq_zero.2 h1
      omega
    · rw [splN_some _ _ _ h2]
      have hc : b.count 46 = (a ++ 46 :: b).count 46 - 1 := by
        rw [List.count_append, List.count_cons_self, List.count_eq_zero.2 h2]
        omega
      rw [List.length_cons, ih b (by omega)]
theorem splN_small : ∀ (n : Nat) (l : List UInt8), ∀ x ∈ splN n l, x.length ≤ l.length := by
  intro n
  induction n with
  | zero =>
    intro l x hx
    have hx : x ∈ [l] := hx
    rw [List.mem_singleton.1 hx]
    exact Nat.le_refl _
  | succ n ih =>
    intro l x hx
    rcases first_pt l with h1 | ⟨a, b, rfl, h2⟩
    · rw [splN_none _ _ h1] at hx
      rw [List.mem_singleton.1 hx]
      exact Nat.le_refl _
    · rw [splN_some _ _ _ h2] at hx
      rcases List.mem_cons.1 hx with rfl | hx
      · simp
      · have := ih b x hx
        simp
        omega
theorem spl_small : ∀ (l : List UInt8), ∀ x ∈ spl l, x.length ≤ l.length := fun l x hx => splN_small (l.count 46) l x (by rw [splN_all _ _ (Nat.le_refl _)]; exact hx)
theorem splN_le (n : Nat) (l : List UInt8) : (splN n l).length ≤ n + 1 := by
  induction n generalizing l with
  | zero => exact Nat.le_refl _
  | succ n ih =>
    rcases first_pt l with h1 | ⟨a, b, rfl, h2⟩
    · rw [splN_none _ _ h1]
      simp
    · rw [splN_some _ _ _ h2]
      have := ih b
      simp
      omega
theorem rd_at (pre r : List (List UInt8)) (t : List UInt8) : rdOf ByteArray.empty ((pre ++ t :: r).map S) ((pre.length : Nat) : Int) = S t := by
  simp [rdOf]
theorem dg_mem {l : List UInt8} (h : dgL l = true) : (∀ b ∈ l, 48 ≤ b.toNat ∧ b.toNat ≤ 57) ∧ 0 < l.length := by
  unfold dgL at h
  rw [Bool.and_eq_true, List.all_eq_true] at h
  exact ⟨fun b hb => of_decide_eq_true (h.1 b hb), of_decide_eq_true h.2⟩
theorem impl_run : ∀ (r pre : List (List UInt8)) (acc : List Int), pre.length + r.length ≤ 1048577 → acc.length ≤ pre.length → (∀ t ∈ r, t.length ≤ 1048576) →
    Ev (fun k => impl_ReadAddress.l0 k acc ((pre ++ r).map S) (((pre ++ r).map S).length : Int) ((pre.length : Nat) : Int)) (run r acc)
  | [], pre, acc, h1, h2, _ => by
    refine Ev.step (fun _ => impl_ReadAddress.l0.eq_2 _ _ _ _ _) (ev_neg (by simp) ?_)
    unfold run
    exact ev_ite (fun _ => Ev.now _) (fun _ => Ev.now _)
  | t :: r, pre, acc, h1, h2, h3 => by
    have ht := h3 t (by simp)
    simp only [List.length_cons] at h1
    refine Ev.step (fun _ => impl_ReadAddress.l0.eq_2 _ _ _ _ _) (ev_pos (by simp <;> omega) (ev_pos (by omega) (ev_pos (by simp <;> omega) ?_)))
    rw [rd_at]
    have ea : Hand.strconv_Atoi.f (S t) = (match Lib.atoiAll t with | .ok v => some (v, none) | .syntax => some (0, some 0) | .range => some (Lib.atoiSat t, some 0)) := by
      unfold Hand.strconv_Atoi.f
      rw [if_pos (by rw [S_size]; omega), S_dataList]
      rfl
    rw [ea]
    have none_of : (∀ v, swL t = some v → Lib.atoiAll t = .ok v ∧ (0 ≤ v ∧ v ≤ 255) ∧ Lib.itoa v = t) := by
      intro v hv
      obtain ⟨a, b⟩ := sw_tell t v hv
      refine ⟨?_, a, b⟩
      rw [← b]
      exact (tell3 v a.1 a.2).2.1
    cases q : Lib.atoiAll t with
    | «syntax» =>
      have hn : swL t = none := by
        cases c : swL t with
        | none => rfl
        | some v => rw [(none_of v c).1] at q; cases q
      simp only [run, hn]
      exact ev_bindc rfl (ev_neg (by simp) (Ev.now _))
    | range =>
      have hn : swL t = none := by
        cases c : swL t with
        | none => rfl
        | some v => rw [(none_of v c).1] at q; cases q
      simp only [run, hn]
      exact ev_bindc rfl (ev_neg (by simp) (Ev.now _))
    | ok v =>
      refine ev_bindc rfl (ev_pos rfl (ev_bindc (within_eq _ _ _) ?_))
      by_cases c : 0 ≤ v ∧ v ≤ 255
      · rw [decide_eq_true c]
        refine ev_pos rfl (ev_bindc (show Hand.strconv_Itoa.f v = some (S (Lib.itoa v)) by unfold Hand.strconv_Itoa.f; rw [if_pos c.1, if_pos c.2]; rfl) ?_)
        rw [S_list, S_list]
        by_cases d : Lib.itoa v = t
        · have es : swL t = some v := by rw [← d]; exact (tell3 v c.1 c.2).1
          refine ev_pos d (ev_pos (by omega) ?_)
          simp only [run, es]
          rw [w64 (by omega) (by omega)]
          have ih := impl_run r (pre ++ [t]) (acc ++ [v]) (by simp; omega) (by simp; omega) (fun x hx => h3 x (by simp [hx]))
          rw [List.append_assoc, show [t] ++ r = t :: r from rfl, show (((pre ++ [t]).length : Nat) : Int) = (pre.length : Int) + 1 by simp] at ih
          exact ih
        · have hn : swL t = none := by
            cases e : swL t with
            | none => rfl
            | some u =>
              obtain ⟨a, _, b⟩ := none_of u e
              rw [q] at a
              cases a
              exact absurd b d
          simp only [run, hn]
          exact ev_neg d (Ev.now _)
      · have hn : swL t = none := by
          cases e : swL t with
          | none => rfl
          | some u =>
            obtain ⟨a, b, _⟩ := none_of u e
            rw [q] at a
            cases a
            exact absurd b c
        simp only [run, hn]
        rw [decide_eq_false c]
        exact ev_neg (by simp) (Ev.now _)
theorem splitN_ev (s : ByteArray) (hs : s.size ≤ 1048576) : ∃ m, m = min 4 s.size ∧ Ev (fun k => strings_SplitN.f k s (⟨#[46]⟩ : ByteArray) 5) ((splN m s.data.toList).map S) := by
  have hl : s.data.toList.length = s.size := dl_size s
  refine ⟨_, rfl, Ev.bind (a := (splN (min 4 s.size) s.data.toList).map S) (ev_neg (by omega) (ev_neg (by rw [ByteArray.toList_eq]; simp) (ev_neg (by omega) ?_))) (Ev.now _)⟩
  have e2 : Aside0 (wrap64 ((s.size : Int) + 1) = ((s.size + 1 : Nat) : Int)) := ⟨by rw [w64 (by omega) (by omega)]; rfl⟩
  have e3 : Aside0 (mn 5 ((s.size + 1 : Nat) : Int) = ((min 4 s.size + 1 : Nat) : Int)) := ⟨by unfold mn; split <;> omega⟩
  have e4 : Aside0 (wrap64 (((min 4 s.size + 1 : Nat) : Int) - 1) = ((min 4 s.size : Nat) : Int)) := ⟨by rw [w64 (by omega) (by omega)]; omega⟩
  refine Ev.step (fun k => strings_genSplit.j0.eq_2 _ _ _ _ _) ?_
  rw [e2.out, e3.out, e4.out]
  refine ev_pos (by omega) (ev_pos (by omega) ?_)
  have := gen_l0 (min 4 s.size) (by omega) (min 4 s.size) s.data.toList [] (by simp) (by omega)
  rw [S_data] at this
  rw [Int.toNat_natCast]
  exact this
def res (s : ByteArray) : List Int × Bool := run (splN (min 4 s.size) s.data.toList) []
theorem impl_ev (s : ByteArray) (hs : s.size ≤ 1048576) : Ev (fun k => impl_ReadAddress.f k s) (res s) := by
  obtain ⟨m, rfl, h⟩ := splitN_ev s hs
  refine Ev.bind h ?_
  have hl : s.data.toList.length = s.size := dl_size s
  have hle := splN_le (min 4 s.size) s.data.toList
  have := impl_run (splN (min 4 s.size) s.data.toList) [] [] (by simp; omega) (by simp) (fun t ht => by have := splN_small _ _ t ht; omega)
  exact this
theorem res_spl (s : ByteArray) : res s = run (spl s.data.toList) [] := by
  have hl : s.data.toList.length = s.size := dl_size s
  have hc : s.data.toList.count 46 ≤ s.size := by rw [← hl]; exact List.count_le_length
  unfold res
  by_cases c : s.data.toList.count 46 ≤ 4
  · rw [splN_all _ _ (by omega)]
  · rw [show min 4 s.size = 4 by omega, run_len _ _ (by rw [splN_len 4 _ (by omega)]; simp), run_len _ _ (by rw [spl_length, List.length_nil]; omega)]
theorem run_size : ∀ (X : List (List UInt8)) (acc : List Int), (run X acc).1.length ≤ acc.length + X.length
  | [], acc => by
    unfold run
    split <;> simp
  | t :: r, acc => by
    unfold run
    cases swL t with
    | none => simp
    | some v =>
      have := run_size r (acc ++ [v])
      simp at this ⊢
      omega
theorem run_true : ∀ (X : List (List UInt8)) (acc c : List Int), run X acc = (c, true) → ∃ vs : List Int, c = acc ++ vs ∧ X = vs.map Lib.itoa ∧ (∀ v ∈ vs, 0 ≤ v ∧ v ≤ 255) ∧ c.length = 4
  | [], acc, c, h => by
    unfold run at h
    split at h
    · next q =>
      injection h with h1 h2
      subst h1
      exact ⟨[], by simp, rfl, fun v hv => (by cases hv), by omega⟩
    · injection h with h1 h2
      cases h2
  | t :: r, acc, c, h => by
    cases e : swL t with
    | none =>
      simp only [run, e] at h
      injection h with h1 h2
      cases h2
    | some v =>
      simp only [run, e] at h
      obtain ⟨vs, h1, h2, h3, h4⟩ := run_true r (acc ++ [v]) c h
      obtain ⟨b1, b2⟩ := sw_tell t v e
      refine ⟨v :: vs, by rw [h1]; simp, by rw [h2]; simp [b2], fun u hu => ?_, h4⟩
      rcases List.mem_cons.1 hu with rfl | hu
      · exact b1
      · exact h3 u hu
theorem run_false : ∀ (X : List (List UInt8)) (acc : List Int), (run X acc).2 = false → run X acc = ([], false)
  | [], acc, h => by
    unfold run at h ⊢
    split
    · next q => rw [if_pos q] at h; cases h
    · rfl
  | t :: r, acc, h => by
    cases e : swL t with
    | none => simp only [run, e]
    | some v =>
      simp only [run, e] at h ⊢
      exact run_false r _ h
def jn : List (List UInt8) → List UInt8
  | [] => []
  | [x] => x
  | x :: y :: r => x ++ 46 :: jn (y :: r)
theorem jn_spl : ∀ (n : Nat) (l : List UInt8), l.length ≤ n → jn (spl l) = l := by
  intro n
  induction n with
  | zero =>
    intro l hl
    obtain rfl : l = [] := List.eq_nil_of_length_eq_zero (by omega)
    rfl
  | succ n ih =>
    intro l hl
    rcases first_pt l with h1 | ⟨a, b, rfl, h2⟩
    · rw [spl_none l h1]
      rfl
    · rw [spl_some _ _ h2]
      have hb := ih b (by simp at hl; omega)
      cases q : spl b with
      | nil => exact absurd q (spl_ne b)
      | cons y r =>
        rw [jn, ← q, hb]
theorem text_jn (a b c d : Int) : (text (tell a) (tell b) (tell c) (tell d)).data.toList = jn [Lib.itoa a, Lib.itoa b, Lib.itoa c, Lib.itoa d] := by
  simp [text, tell, dot, jn, ByteArray.data_append]
theorem no46 (v : Int) (h0 : 0 ≤ v) (h1 : v ≤ 255) : (46 : UInt8) ∉ Lib.itoa v := by
  intro h
  have e := (tell3 v h0 h1).1
  unfold swL at e
  split at e
  · next q =>
    have := (dg_mem q).1 46 h
    revert this
    decide
  · cases e
theorem spl_text (a b c d : Int) (ha : 0 ≤ a ∧ a ≤ 255) (hb : 0 ≤ b ∧ b ≤ 255) (hc : 0 ≤ c ∧ c ≤ 255) (hd : 0 ≤ d ∧ d ≤ 255) : spl (text (tell a) (tell b) (tell c) (tell d)).data.toList = [Lib.itoa a, Lib.itoa b, Lib.itoa c, Lib.itoa d] := by
  rw [text_jn]
  simp only [jn]
  rw [spl_some _ _ (no46 a ha.1 ha.2), spl_some _ _ (no46 b hb.1 hb.2), spl_some _ _ (no46 c hc.1 hc.2), spl_none _ (no46 d hd.1 hd.2)]
theorem res_text (a b c d : Int) (ha : 0 ≤ a ∧ a ≤ 255) (hb : 0 ≤ b ∧ b ≤ 255) (hc : 0 ≤ c ∧ c ≤ 255) (hd : 0 ≤ d ∧ d ≤ 255) : res (text (tell a) (tell b) (tell c) (tell d)) = ([a, b, c, d], true) := by
  rw [res_spl, spl_text a b c d ha hb hc hd]
  simp only [run, (tell3 a ha.1 ha.2).1, (tell3 b hb.1 hb.2).1, (tell3 c hc.1 hc.2).1, (tell3 d hd.1 hd.2).1]
  rfl
theorem res_back (t : ByteArray) (c : List Int) (h : res t = (c, true)) : addr c = true ∧ (wres c).1 = t := by
  rw [res_spl] at h
  obtain ⟨vs, h1, h2, h3, h4⟩ := run_true _ _ _ h
  rw [List.nil_append] at h1
  subst h1
  match c, h2, h3, h4 with
  | [a, b, d, e], h2, h3, _ =>
    have ha := h3 a (by simp)
    have hb := h3 b (by simp)
    have hd := h3 d (by simp)
    have he := h3 e (by simp)
    have had : addr [a, b, d, e] = true := by
      unfold addr
      simp [ha, hb, hd, he]
    refine ⟨had, ?_⟩
    unfold wres
    rw [if_pos had]
    show text (tell a) (tell b) (tell d) (tell e) = t
    apply ByteArray.ext
    apply Array.ext'
    rw [text_jn, ← jn_spl _ t.data.toList (Nat.le_refl _), h2]
    rfl
theorem drawAddr_some {l : List Int} {p : Int} (h : At l p) (s : Int) : ∃ a p' s', spec_l8DrawAddress.f l p s = some (a, p', s') ∧ a.length ≤ 5 ∧ At l p' := by
  unfold spec_l8DrawAddress.f
  obtain ⟨v1, p1, s1, e1, _, h1⟩ := pick_some h s [10, 192, 127, 0, 255] (by decide) (by decide)
  rw [e1]
  simp only [Option.bind_some]
  obtain ⟨v2, p2, s2, e2, _, _, h2⟩ := below_some h1 s1 3 (by omega) (by omega)
  rw [e2]
  simp only [Option.bind_some]
  obtain ⟨v3, p3, s3, e3, _, _, h3⟩ := below_some h2 s2 256 (by omega) (by omega)
  rw [e3]
  simp only [Option.bind_some]
  obtain ⟨v4, p4, s4, e4, _, _, h4⟩ := below_some h3 s3 256 (by omega) (by omega)
  rw [e4]
  simp only [Option.bind_some]
  obtain ⟨v5, p5, s5, e5, _, _, h5⟩ := below_some h4 s4 25 (by omega) (by omega)
  rw [e5]
  simp only [Option.bind_some]
  by_cases c0 : v5 = 0
  · rw [if_pos c0]
    obtain ⟨v6, p6, s6, e6, r0, r1, h6⟩ := below_some h5 s5 4 (by omega) (by omega)
    rw [e6]
    simp only [Option.bind_some]
    obtain ⟨v7, p7, s7, e7, _, h7⟩ := pick_some h6 s6 [-1, 256] (by decide) (by decide)
    rw [e7]
    simp only [Option.bind_some]
    rw [if_pos r0, if_pos (by simp; omega)]
    exact ⟨_, _, _, rfl, by simp, h7⟩
  · rw [if_neg c0]
    by_cases c1 : v5 = 1
    · rw [if_pos c1, if_pos (by simp)]
      exact ⟨_, _, _, rfl, by simp, h5⟩
    · rw [if_neg c1]
      by_cases c2 : v5 = 2
      · rw [if_pos c2, if_pos (by simp)]
        exact ⟨_, _, _, rfl, by simp, h5⟩
      · rw [if_neg c2]
        exact ⟨_, _, _, rfl, by simp, h5⟩
theorem picks : ∀ x ∈ ([0, 8, 16, 24, 31, 32, 33, (-1), 20] : List Int), -1 ≤ x ∧ x ≤ 33 := by decide
theorem drawNet_ev (l : List Int) (hl : l.length ≤ 1048576) : ∃ n b m, n.length ≤ 5 ∧ m.length ≤ 5 ∧ (-1 ≤ b ∧ b ≤ 33) ∧ Ev (fun k => spec_DrawInNet.f k l) (n, b, m) := by
  obtain ⟨sd, hn⟩ := new_ev l hl
  obtain ⟨a, p1, s1, e1, la, h1⟩ := drawAddr_some (l := l) (p := 0) ⟨hl, by omega, by omega⟩ sd
  have J1 : ∀ (x : List Int) (p s : Int), x.length ≤ 5 → At l p → ∃ b m, m.length ≤ 5 ∧ (-1 ≤ b ∧ b ≤ 33) ∧ Ev (fun k => spec_DrawInNet.j1 k a x l p s) (a, b, m) := by
    intro x p s hx hp
    obtain ⟨v, p2, s2, e2, h2⟩ := once_some hp s 4 (by omega) (by omega)
    cases v with
    | true =>
      obtain ⟨y, p3, s3, e3, ly, h3⟩ := drawAddr_some h2 s2
      obtain ⟨b, p4, s4, e4, mb, h4⟩ := pick_some h3 s3 [0, 8, 16, 24, 31, 32, 33, (-1), 20] (by decide) (by decide)
      exact ⟨b, y, ly, picks b mb, Ev.step (fun _ => spec_DrawInNet.j1.eq_2 _ _ _ _ _ _) (ev_bindc e2 (ev_pos rfl (ev_bindc e3 (ev_bindc e4 (Ev.now _)))))⟩
    | false =>
      obtain ⟨b, p4, s4, e4, mb, h4⟩ := pick_some h2 s2 [0, 8, 16, 24, 31, 32, 33, (-1), 20] (by decide) (by decide)
      exact ⟨b, x, hx, picks b mb, Ev.step (fun _ => spec_DrawInNet.j1.eq_2 _ _ _ _ _ _) (ev_bindc e2 (ev_neg (by simp) (ev_bindc e4 (Ev.now _))))⟩
  have F : ∀ (x : List Int) (p s : Int), x.length ≤ 5 → At l p → ∃ b m, m.length ≤ 5 ∧ (-1 ≤ b ∧ b ≤ 33) ∧ Ev (fun k => spec_DrawInNet.j0 k a x false l p s) (a, b, m) := by
    intro x p s hx hp
    obtain ⟨b, m, h1, h2, h3⟩ := J1 x p s hx hp
    exact ⟨b, m, h1, h2, Ev.step (fun _ => spec_DrawInNet.j0.eq_2 _ _ _ _ _ _ _) (ev_neg (by simp) h3)⟩
  by_cases c : ((([] : List Int) ++ a).length : Int) > 0
  · obtain ⟨v, p2, s2, e2, h2⟩ := once_some h1 s1 2 (by omega) (by omega)
    have T : ∃ b m, m.length ≤ 5 ∧ (-1 ≤ b ∧ b ≤ 33) ∧ Ev (fun k => spec_DrawInNet.j0 k a ([] ++ a) v l p2 s2) (a, b, m) := by
      cases v with
      | false => exact F _ _ _ (by simpa using la) h2
      | true =>
        obtain ⟨u, p3, s3, e3, _, _, h3⟩ := below_some h2 s2 256 (by omega) (by omega)
        have lc : (([] : List Int) ++ a).length ≤ 5 := by simpa using la
        obtain ⟨b, m, q1, q2, q3⟩ := J1 (([] ++ a).set ((wrap64 ((([] ++ a).length : Int) - 1)) : Int).toNat u) p3 s3 (by rw [List.length_set]; exact lc) h3
        exact ⟨b, m, q1, q2, Ev.step (fun _ => spec_DrawInNet.j0.eq_2 _ _ _ _ _ _ _) (ev_pos rfl (ev_bindc e3 (ev_pos (by rw [w64 (by omega) (by omega)]; omega) (ev_pos (by rw [w64 (by omega) (by omega)]; omega) q3))))⟩
    obtain ⟨b, m, q1, q2, q3⟩ := T
    exact ⟨a, b, m, la, q1, q2, Ev.bind hn (ev_bindc e1 (ev_bindc rfl (ev_pos (by show ([] : List Int).length + a.length < 17592186044416; rw [List.length_nil]; omega) (ev_bindc rfl (ev_pos c (ev_bindc e2 q3))))))⟩
  · obtain ⟨b, m, q1, q2, q3⟩ := F ([] ++ a) p1 s1 (by simpa using la) h1
    exact ⟨a, b, m, la, q1, q2, Ev.bind hn (ev_bindc e1 (ev_bindc rfl (ev_pos (by show ([] : List Int).length + a.length < 17592186044416; rw [List.length_nil]; omega) (ev_bindc rfl (ev_neg c q3)))))⟩
theorem pickS_some {l : List Int} {p : Int} (h : At l p) (s : Int) (xs : List ByteArray) (h0 : 0 < xs.length) (h1 : xs.length ≤ 1048576) : ∃ v p' s', spec_l1Pick.f l p s xs = some (v, p', s') ∧ v ∈ xs ∧ At l p' := by
  unfold spec_l1Pick.f
  obtain ⟨v, p', s', e, r0, r1, h'⟩ := below_some h s (xs.length : Int) (by omega) (by omega)
  rw [e]
  simp only [Option.bind_some]
  rw [if_pos r0, if_pos r1]
  refine ⟨_, _, _, rfl, ?_, h'⟩
  unfold rdOf
  rw [List.getD_eq_getElem?_getD, List.getElem?_eq_getElem (show v.toNat < xs.length by omega)]
  exact List.getElem_mem _
def odd : List ByteArray := [(⟨#[]⟩ : ByteArray), (⟨#[49, 46, 50, 46, 51]⟩ : ByteArray), (⟨#[49, 46, 50, 46, 51, 46, 52, 46, 53]⟩ : ByteArray), (⟨#[48, 49, 46, 50, 46, 51, 46, 52]⟩ : ByteArray), (⟨#[49, 46, 50, 46, 51, 46, 50, 53, 54]⟩ : ByteArray), (⟨#[49, 46, 50, 46, 51, 46]⟩ : ByteArray), (⟨#[97, 46, 50, 46, 51, 46, 52]⟩ : ByteArray), (⟨#[49, 46, 50, 46, 51, 46, 48, 48, 48, 52]⟩ : ByteArray), (⟨#[48, 46, 48, 46, 48, 46, 48]⟩ : ByteArray), (⟨#[49, 46, 46, 50, 46, 51]⟩ : ByteArray), (⟨#[32, 49, 46, 50, 46, 51, 46, 52]⟩ : ByteArray)]
theorem odd_size : ∀ p ∈ odd, p.size ≤ 100 := by decide +kernel
theorem wres_size (a : List Int) : (wres a).1.size ≤ 15 := by
  unfold wres
  split
  · next h =>
    obtain ⟨a, b, c, d, rfl, ha, hb, hc, hd⟩ := addr_four a h
    have sa := tell_size a ha.1 ha.2
    have sb := tell_size b hb.1 hb.2
    have sc := tell_size c hc.1 hc.2
    have sd := tell_size d hd.1 hd.2
    show (text (tell a) (tell b) (tell c) (tell d)).size ≤ 15
    simp only [text, ByteArray.size_append, dot_size]
    omega
  · exact Nat.zero_le _
theorem drawRead_ev (l : List Int) (hl : l.length ≤ 1048576) : ∃ t, t.size ≤ 100 ∧ Ev (fun k => spec_DrawReadAddress.f k l) t := by
  obtain ⟨sd, hn⟩ := new_ev l hl
  obtain ⟨a, p1, s1, e1, la, h1⟩ := drawAddr_some (l := l) (p := 0) ⟨hl, by omega, by omega⟩ sd
  have hw := wspec_ev a (by omega)
  have hz := wres_size a
  obtain ⟨v, p2, s2, e2, v0, v1, h2⟩ := below_some h1 s1 6 (by omega) (by omega)
  by_cases c0 : v = 0
  · obtain ⟨t, p3, s3, e3, ht, h3⟩ := pickS_some h2 s2 odd (by decide) (by decide)
    exact ⟨t, odd_size t ht, Ev.bind hn (ev_bindc e1 (Ev.bind hw (ev_bindc e2 (ev_pos c0 (ev_bindc e3 (Ev.now _))))))⟩
  · by_cases c1 : v = 1
    · by_cases c2 : ((wres a).1.size : Int) > 0
      · obtain ⟨u, p3, s3, e3, u0, u1, h3⟩ := below_some h2 s2 ((wres a).1.size : Int) (by omega) (by omega)
        exact ⟨_, by rw [ByteArray.size_extract]; omega, Ev.bind hn (ev_bindc e1 (Ev.bind hw (ev_bindc e2 (ev_neg c0 (ev_pos c1 (ev_pos c2 (ev_bindc e3 (ev_pos u0 (ev_pos (by omega) (Ev.now _))))))))))⟩
      · exact ⟨(wres a).1, by omega, Ev.bind hn (ev_bindc e1 (Ev.bind hw (ev_bindc e2 (ev_neg c0 (ev_pos c1 (ev_neg c2 (Ev.now _)))))))⟩
    · exact ⟨(wres a).1, by omega, Ev.bind hn (ev_bindc e1 (Ev.bind hw (ev_bindc e2 (ev_neg c0 (ev_neg c1 (Ev.now _))))))⟩
theorem same_next (n m : List Int) (b : Int) (h : same n b m = true) (hb : b > 0) : same n (b - 1) m = true := by
  unfold same at h ⊢
  rw [Bool.and_eq_true, Bool.and_eq_true, Bool.and_eq_true, decide_eq_true_eq, beq_iff_eq] at h
  obtain ⟨⟨⟨h1, h2⟩, h3⟩, h4⟩ := h
  obtain ⟨s, hs⟩ := Int.eq_ofNat_of_zero_le (show 0 ≤ 32 - b by omega)
  rw [h1, h2, decide_eq_true (show 0 ≤ b - 1 ∧ b - 1 ≤ 32 by omega), show 32 - (b - 1) = ((s + 1 : Nat) : Int) by omega]
  rw [hs, shr_nat _ s (by omega), shr_nat _ s (by omega)] at h4
  rw [shr_nat _ (s + 1) (by omega), shr_nat _ (s + 1) (by omega), Nat.shiftRight_add, Nat.shiftRight_add, Int.ofNat.inj h4]
  simp
theorem same_symm (n m : List Int) (b : Int) (h : same n b m = true) : same m b n = true := by
  unfold same at h ⊢
  rw [Bool.and_eq_true, Bool.and_eq_true, Bool.and_eq_true, beq_iff_eq] at h
  obtain ⟨⟨⟨h1, h2⟩, h3⟩, h4⟩ := h
  rw [h1, h2, h3, h4]
  simp
theorem same_self (n : List Int) (b : Int) (h : addr n = true) (hb : 0 ≤ b ∧ b ≤ 32) : same n b n = true := by
  unfold same
  rw [h, decide_eq_true hb]
  simp
theorem same_no (n : List Int) : same n 33 n = false := by
  unfold same
  rw [decide_eq_false (show ¬ (0 ≤ (33 : Int) ∧ (33 : Int) ≤ 32) by omega)]
  simp
theorem sameInts_ev (l : List Int) (hl : l.length ≤ 1048577) : Ev (fun k => laws_sameInts.f k l l) true :=
  ev_pos rfl (by simpa using eq_ev (L := laws_sameInts.l0) (fun _ _ _ _ => rfl) l l (by omega) rfl)
theorem at_some (l : List Int) (hl : l.length ≤ 1048576) (hb : ∀ x ∈ l, 0 ≤ x ∧ x ≤ 255) : ∃ v, 0 ≤ v ∧ laws_at.f l 0 = some v := by
  unfold laws_at.f
  by_cases c : (0 : Int) < (l.length : Int)
  · rw [if_pos c, if_pos (by omega)]
    have := hb _ (rd_mem (xs := l) (i := 0) (by omega) c)
    exact ⟨_, by rw [w64 (by omega) (by omega)]; omega, rfl⟩
  · rw [if_neg c]
    refine ⟨_, ?_, rfl⟩
    rw [w64 (x := 0 * 7) (by omega) (by omega), w64 (by omega) (by omega), Int.tmod_eq_emod_of_nonneg (by omega)]
    omega
theorem FnAddresses : laws_FnAddresses.Pure := by
  intro l _ _ hw
  have hb : ∀ x ∈ l, 0 ≤ x ∧ x ≤ 255 := fun x hx => by
    have := hw x hx
    simpa [Lit.wf, IntKind.min, IntKind.max, IntKind.signed, IntKind.bits] using this
  by_cases c0 : (l.length : Int) > 1048576
  · exact ev_k (ev_bindc (show laws_big.f l = some true by unfold laws_big.f; rw [decide_eq_true c0]) (ev_pos rfl (Ev.now _)))
  have hl : l.length ≤ 1048576 := by omega
  obtain ⟨sd, hn⟩ := new_ev l hl
  obtain ⟨a, p1, s1, e1, la, h1⟩ := drawAddr_some (l := l) (p := 0) ⟨hl, by omega, by omega⟩ sd
  have hd : Ev (fun k => spec_DrawWriteAddress.f k l) a := Ev.bind hn (ev_bindc e1 (Ev.now _))
  obtain ⟨n, b, m, ln, lm, bb, hN⟩ := drawNet_ev l hl
  obtain ⟨t, lt, ht⟩ := drawRead_ev l hl
  have j2 : Ev (fun k => laws_FnAddresses.j2 k l) true := by
    refine Ev.step (fun _ => laws_FnAddresses.j2.eq_2 _ _) (Ev.bind ht (Ev.bind (impl_ev t (by omega)) ?_))
    cases q : (res t).2 with
    | true =>
      have hr : res t = ((res t).1, true) := by rw [← q]
      obtain ⟨ha, hb⟩ := res_back t (res t).1 hr
      have hlen : (res t).1.length ≤ 1048576 := by
        obtain ⟨_, _, _, _, e, _⟩ := addr_four _ ha
        rw [e]
        simp
      refine ev_pos rfl (Ev.bind (wimpl_ev (res t).1 hlen) ?_)
      rw [hb]
      rw [show (t.toList == t.toList) = true from by rw [bd]; simp]
      exact Ev.now _
    | false =>
      have hr : res t = ([], false) := run_false _ _ q
      rw [hr]
      exact ev_neg (by simp) (Ev.now _)
  have j1 : Ev (fun k => laws_FnAddresses.j1 k l n b m false) true := by
    refine Ev.step (fun _ => laws_FnAddresses.j1.eq_2 _ _ _ _ _ _) (ev_neg (by simp) (Ev.bind (impl_inNet n b m (by omega) (by omega)) ?_))
    cases q : same n b m with
    | false => exact ev_neg (by simp) j2
    | true =>
      refine ev_pos rfl ?_
      have hs := impl_inNet m b n (by omega) (by omega)
      rw [same_symm n m b q] at hs
      by_cases c : b > 0
      · have hx := impl_inNet n (b - 1) m (by omega) (by omega)
        rw [same_next n m b q c] at hx
        refine ev_pos c ?_
        rw [w64 (by omega) (by omega)]
        exact Ev.bind hx (ev_pos rfl (Ev.bind hs (ev_pos rfl j2)))
      · exact ev_neg c (Ev.bind hs (ev_pos rfl j2))
  refine ev_k (ev_bindc (show laws_big.f l = some false by unfold laws_big.f; rw [decide_eq_false c0]) (ev_neg (by simp) (Ev.bind hd (Ev.bind (wimpl_ev a (by omega)) (Ev.bind (impl_ev (wres a).1 (by have := wres_size a; omega)) (Ev.bind (wspec_ev a (by omega)) (ev_neg (by simp) ?_)))))))
  cases q : addr a with
  | true =>
    obtain ⟨a0, a1, a2, a3, rfl, q0, q1, q2, q3⟩ := addr_four a q
    have e1 : wres [a0, a1, a2, a3] = (text (tell a0) (tell a1) (tell a2) (tell a3), true) := by
      unfold wres
      rw [if_pos q]
      rfl
    rw [e1, res_text a0 a1 a2 a3 q0 q1 q2 q3]
    obtain ⟨v, v0, hv⟩ := at_some l hl hb
    have hm0 : Int.tmod v 33 = v % 33 := Int.tmod_eq_emod_of_nonneg v0
    have s1 := impl_inNet [a0, a1, a2, a3] (Int.tmod v 33) [a0, a1, a2, a3] (by simp) (by simp)
    rw [same_self _ _ q (by rw [hm0]; omega)] at s1
    have s2 := impl_inNet [a0, a1, a2, a3] 33 [a0, a1, a2, a3] (by simp) (by simp)
    rw [same_no] at s2
    refine ev_pos rfl (ev_pos rfl (Ev.bind (sameInts_ev [a0, a1, a2, a3] (by simp)) (ev_pos rfl ?_)))
    exact Ev.step (fun _ => laws_FnAddresses.j0.eq_2 _ _ _ _ _) (ev_neg (by simp) (Ev.bind hN (ev_pos rfl (ev_bindc hv (Ev.bind s1 (ev_pos rfl (Ev.bind s2 j1)))))))
  | false =>
    have e1 : wres a = (⟨#[]⟩, false) := by
      unfold wres
      rw [if_neg (by rw [q]; simp)]
    rw [e1]
    refine ev_neg (by simp) ?_
    rw [show (((⟨#[]⟩ : ByteArray), false).1.toList != ([] : List UInt8)) = false from by rw [ByteArray.toList_eq]; rfl]
    exact Ev.step (fun _ => laws_FnAddresses.j0.eq_2 _ _ _ _ _) (ev_neg (by simp) (Ev.bind hN (ev_neg (by simp) j1)))

end Go.Proofs.YthfaelbkdhhmdaaDoor.Pure
