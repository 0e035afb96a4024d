/- The program's InNet returns what the reference's returns, for all arguments that the law lets in. -/
import Derived.Test.YtdnijphfamnnoaaPFnExactInNetx2
import Derived.Test.YtdnijphfamnnoaaBase
namespace Go.Proofs.Ytdnijphfamnnoaa.Pure
open Go.RowKit Go.Proofs.Ytdnijphfamnnoaa.PFnExactInNet Go.Proofs.YtdnijphfamnnoaaW.PrintWords Go.Proofs.YtdnijphfamnnoaaW.PrintLast Go.Proofs.Ytdnijphfamnnoaa.Base
set_option linter.unusedVariables false

theorem l1In_eq (x a b : Int) : spec_l1In.f x a b = some (decide (a ≤ x ∧ x ≤ b)) := by
  unfold spec_l1In.f
  by_cases h : x ≥ a
  · rw [if_pos h]; simp [show a ≤ x from h]
  · rw [if_neg h]; simp [show ¬ a ≤ x from h]
theorem within_eq (x a b : Int) : impl_within.f x a b = some (decide (a ≤ x ∧ x ≤ b)) := l1In_eq x a b
theorem toIntS_ev (l : List Int) (hl : l.length ≤ 1048576) : Ev (fun k => laws_toIntS.f k l) l := by
  refine ev_pos (by omega) (ev_pos (by omega) ?_)
  rw [show ((l.length : Int) : Int).toNat = l.length by omega]
  exact copy_ev (L := laws_toIntS.l0) (fun _ _ _ _ => rfl) l (by omega)
theorem eqIntS_ev (l : List Int) (hl : l.length ≤ 1048576) : Ev (fun k => laws_eqIntS.f k l l) true :=
  ev_pos rfl (by simpa using eq_ev (L := laws_eqIntS.l0) (fun _ _ _ _ => rfl) l l (by omega) rfl)
def addr (l : List Int) : Bool := l.all (fun x => decide (0 ≤ x ∧ x ≤ 255)) && ((l.length : Int) == 4)
theorem four_ev (l : List Int) (hl : l.length ≤ 1099511627776) : Ev (fun k => spec_l8Four.f k l) (addr l) := by
  unfold addr
  rw [← all_range_rd]
  refine all_ev (L := fun k i => spec_l8Four.l0 k l i) l.length ?_ ?_ ?_
  · intro i hi hp r h
    refine Ev.step (fun k => spec_l8Four.l0.eq_2 _ _ _) (ev_pos (by omega) (ev_pos (by omega) (ev_bindc (l1In_eq _ _ _) (ev_pos hp ?_))))
    rw [w64 (by omega) (by omega)]; exact h
  · intro i hi hp
    exact Ev.step (fun k => spec_l8Four.l0.eq_2 _ _ _) (ev_pos (by omega) (ev_pos (by omega) (ev_bindc (l1In_eq _ _ _) (ev_neg (by rw [hp]; simp) (Ev.now _)))))
  · exact Ev.step (fun k => spec_l8Four.l0.eq_2 _ _ _) (ev_neg (by omega) (Ev.now _))
theorem allWithin_ev (l : List Int) (a b : Int) (hl : l.length ≤ 1099511627776) : Ev (fun k => impl_allWithin.f k l a b) (l.all (fun x => decide (a ≤ x ∧ x ≤ b))) := by
  rw [← all_range_rd, ← Bool.and_true (List.all _ _)]
  refine all_ev (L := fun k i => impl_allWithin.l0 k a b l (l.length : Int) i) l.length ?_ ?_ ?_
  · intro i hi hp r h
    refine Ev.step (fun k => impl_allWithin.l0.eq_2 _ _ _ _ _ _) (ev_pos (by omega) (ev_pos (by omega) (ev_pos (by omega) (ev_bindc (within_eq _ _ _) (ev_pos hp ?_)))))
    rw [w64 (by omega) (by omega)]; exact h
  · intro i hi hp
    exact Ev.step (fun k => impl_allWithin.l0.eq_2 _ _ _ _ _ _) (ev_pos (by omega) (ev_pos (by omega) (ev_pos (by omega) (ev_bindc (within_eq _ _ _) (ev_neg (by rw [hp]; simp) (Ev.now _))))))
  · exact Ev.step (fun k => impl_allWithin.l0.eq_2 _ _ _ _ _ _) (ev_neg (by omega) (Ev.now _))
theorem isAddress_ev (l : List Int) (hl : l.length ≤ 1099511627776) : Ev (fun k => impl_isAddress.f k l) (addr l) := by
  unfold addr
  by_cases h : (l.length : Int) = 4
  · rw [show ((l.length : Int) == 4) = true by simpa using h, Bool.and_true]
    exact ev_pos h (Ev.bind (allWithin_ev l 0 255 hl) (Ev.now _))
  · rw [show ((l.length : Int) == 4) = false by simpa using h, Bool.and_false]
    exact ev_neg h (Ev.now _)
def num (l : List Int) : Nat := ((rd l 0) * 16777216 + (rd l 1) * 65536 + (rd l 2) * 256 + rd l 3).toNat
theorem addr_four {l : List Int} (h : addr l = true) : l.length = 4 ∧ (num l : Int) = (rd l 0) * 16777216 + (rd l 1) * 65536 + (rd l 2) * 256 + rd l 3 ∧ num l < 4294967296 ∧
    (0 ≤ rd l 0 ∧ rd l 0 ≤ 255) ∧ (0 ≤ rd l 1 ∧ rd l 1 ≤ 255) ∧ (0 ≤ rd l 2 ∧ rd l 2 ≤ 255) ∧ (0 ≤ rd l 3 ∧ rd l 3 ≤ 255) := by
  unfold addr at h
  simp only [Bool.and_eq_true, List.all_eq_true, decide_eq_true_eq, beq_iff_eq] at h
  obtain ⟨h1, h2⟩ := h
  have a0 := h1 _ (rd_mem (xs := l) (i := 0) (by omega) (by omega))
  have a1 := h1 _ (rd_mem (xs := l) (i := 1) (by omega) (by omega))
  have a2 := h1 _ (rd_mem (xs := l) (i := 2) (by omega) (by omega))
  have a3 := h1 _ (rd_mem (xs := l) (i := 3) (by omega) (by omega))
  unfold num
  refine ⟨by omega, by omega, by omega, a0, a1, a2, a3⟩
theorem whole_eq {l : List Int} (h : addr l = true) : spec_l8Whole.f l = some (num l : Int) := by
  obtain ⟨hl, hn, _, h0, h1, h2, h3⟩ := addr_four h
  unfold spec_l8Whole.f
  rw [if_pos (by omega), if_pos (by omega), if_pos (by omega), if_pos (by omega), hn]
  congr 1
  unfold wrap64; omega
theorem number_eq {l : List Int} (h : addr l = true) : impl_number.f l = some (num l : Int) := by
  obtain ⟨hl, hn, _, h0, h1, h2, h3⟩ := addr_four h
  unfold impl_number.f
  rw [if_pos (by omega), if_pos (by omega), if_pos (by omega), if_pos (by omega), hn]
  rw [w64 (x := rd l 0 * 16777216) (by omega) (by omega), w64 (x := rd l 1 * 65536) (by omega) (by omega), w64 (x := rd l 2 * 256) (by omega) (by omega)]
  rw [or_add 24 (x := rd l 0 * 16777216) (y := rd l 1 * 65536) (by omega) (by omega) (by omega) (by omega) (by omega) (by omega), or_add 16 (x := rd l 0 * 16777216 + rd l 1 * 65536) (y := rd l 2 * 256) (by omega) (by omega) (by omega) (by omega) (by omega) (by omega), or_add 8 (y := rd l 3) (by omega) (by omega) (by omega) (by omega) (by omega) (by omega)]
theorem shr_nat (a : Nat) (s : Nat) (hs : s ≤ 64) : shr .i64 (a : Int) (s : Int) = ((a >>> s : Nat) : Int) := by
  unfold shr
  rw [Int.toNat_natCast, Nat.min_eq_left (by simpa [IntKind.bits] using hs), Nat.shiftRight_eq_div_pow]
  simp
theorem shift_same (a b : Nat) (ha : a < 4294967296) (hb : b < 4294967296) (s : Nat) (hs : s ≤ 64) :
    (shr .i64 (Go.bits .xor .i64 (a : Int) (b : Int)) (s : Int) == 0) = (shr .i64 (a : Int) (s : Int) == shr .i64 (b : Int) (s : Int)) := by
  rw [xor_nat a b (by omega) (by omega), shr_nat _ s hs, shr_nat _ s hs, shr_nat _ s hs, Nat.shiftRight_xor_distrib, Bool.eq_iff_iff, beq_iff_eq, beq_iff_eq]
  constructor
  · intro h
    have := nat_xor_zero (Int.natCast_eq_zero.1 h)
    rw [this]
  · intro h
    rw [Int.ofNat.inj h]; simp
def same (l : List Int) (b : Int) (m : List Int) : Bool := addr l && addr m && decide (0 ≤ b ∧ b ≤ 32) && (shr .i64 (num l : Int) (32 - b) == shr .i64 (num m : Int) (32 - b))
theorem spec_inNet (l : List Int) (b : Int) (m : List Int) (hl : l.length ≤ 1099511627776) (hm : m.length ≤ 1099511627776) : Ev (fun k => spec_InNet.f k l b m) (same l b m) := by
  have no : Ev (fun k => spec_InNet.j0 k l b m true) false := Ev.step (fun k => spec_InNet.j0.eq_2 _ _ _ _ _) (ev_pos rfl (Ev.now _))
  unfold same
  refine Ev.bind (four_ev l hl) ?_
  cases h1 : addr l with
  | false => simpa using no
  | true =>
    refine ev_pos rfl (Ev.bind (four_ev m hm) ?_)
    cases h2 : addr m with
    | false => simpa using no
    | true =>
      refine ev_pos rfl (ev_bindc (l1In_eq _ _ _) ?_)
      by_cases h3 : 0 ≤ b ∧ b ≤ 32
      · rw [decide_eq_true h3]
        refine Ev.step (fun k => spec_InNet.j0.eq_2 _ _ _ _ _) (ev_neg (by simp) (ev_bindc (whole_eq h1) ?_))
        rw [w64 (by omega) (by omega)]
        refine ev_pos (by omega) (ev_bindc (whole_eq h2) ?_)
        simpa using Ev.now _
      · rw [decide_eq_false h3]; simpa using no
theorem impl_inNet (l : List Int) (b : Int) (m : List Int) (hl : l.length ≤ 1099511627776) (hm : m.length ≤ 1099511627776) : Ev (fun k => impl_InNet.f k l b m) (same l b m) := by
  unfold same
  refine Ev.bind (isAddress_ev l hl) ?_
  cases h1 : addr l with
  | false => exact ev_neg (by simp) (Ev.now _)
  | true =>
    refine ev_pos rfl (Ev.bind (isAddress_ev m hm) ?_)
    cases h2 : addr m with
    | false => exact ev_neg (by simp) (Ev.now _)
    | true =>
      refine ev_pos rfl (ev_bindc (within_eq _ _ _) ?_)
      by_cases h3 : 0 ≤ b ∧ b ≤ 32
      · rw [decide_eq_true h3]
        refine ev_pos rfl (ev_bindc (number_eq h1) (ev_bindc (number_eq h2) ?_))
        rw [w64 (by omega) (by omega)]
        refine ev_pos (by omega) ?_
        obtain ⟨s, hs⟩ := Int.eq_ofNat_of_zero_le (show 0 ≤ 32 - b by omega)
        rw [hs, shift_same _ _ (addr_four h1).2.2.1 (addr_four h2).2.2.1 s (by omega)]
        simpa using Ev.now _
      · rw [decide_eq_false h3]; exact ev_neg (by simp) (by simpa using Ev.now _)
theorem FnExactInNet : laws_FnExactInNet.Pure := by
  intro l b m _ _ _ _ _ _ _
  by_cases c0 : (l.length : Int) > 1048576
  · exact ev_k (ev_pos c0 (Ev.now _))
  by_cases c1 : (m.length : Int) > 1048576
  · exact ev_k (ev_neg c0 (ev_pos c1 (Ev.now _)))
  have h1 := toIntS_ev l (by omega)
  have h2 := toIntS_ev m (by omega)
  exact ev_k (ev_neg c0 (ev_neg c1 (Ev.bind h1 (Ev.bind h2 (Ev.bind (spec_inNet l b m (by omega) (by omega)) (Ev.bind h1 (Ev.bind h2 (Ev.bind (impl_inNet l b m (by omega) (by omega))
    (ev_neg (by simp) (Ev.bind h1 (Ev.bind (eqIntS_ev l (by omega)) (ev_pos rfl (Ev.bind h2 (Ev.bind (eqIntS_ev m (by omega)) (ev_pos rfl (Ev.now _))))))))))))))))

end Go.Proofs.Ytdnijphfamnnoaa.Pure
