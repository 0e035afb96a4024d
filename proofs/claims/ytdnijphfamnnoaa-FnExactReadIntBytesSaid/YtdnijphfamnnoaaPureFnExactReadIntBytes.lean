/- The program's ReadIntBytes returns what the reference's returns, for all arguments that the law lets in. -/
import Derived.Test.YtdnijphfamnnoaaGFnExactReadIntBytesx2
import Derived.Test.YtdnijphfamnnoaaBase
namespace Go.Proofs.Ytdnijphfamnnoaa.Pure
open Go.RowKit Go.Proofs.Ytdnijphfamnnoaa.GFnExactReadIntBytes Go.Proofs.YtdnijphfamnnoaaW.PrintWords Go.Proofs.YtdnijphfamnnoaaW.PrintLast Go.Proofs.Ytdnijphfamnnoaa.Base
set_option linter.unusedVariables false
set_option linter.unusedSimpArgs false

theorem l1In_eq (x a b : Int) : spec_l1In.f x a b = some (decide (a ≤ x ∧ x ≤ b)) := by
  unfold spec_l1In.f
  by_cases h : x ≥ a
  · rw [if_pos h]; simp [show a ≤ x from h]
  · rw [if_neg h]; simp [show ¬ a ≤ x from h]
theorem within_eq (x a b : Int) : impl_within.f x a b = some (decide (a ≤ x ∧ x ≤ b)) := l1In_eq x a b
theorem toByteS_ev (l : List Int) (hl : l.length ≤ 1048576) : Ev (fun k => laws_toByteS.f k l) l := by
  refine ev_pos (by omega) (ev_pos (by omega) ?_)
  rw [show ((l.length : Int) : Int).toNat = l.length by omega]
  exact copy_ev (L := laws_toByteS.l0) (fun _ _ _ _ => rfl) l (by omega)
theorem eqByteS_ev (l : List Int) (hl : l.length ≤ 1048576) : Ev (fun k => laws_eqByteS.f k l l) true :=
  ev_pos rfl (by simpa using eq_ev (L := laws_eqByteS.l0) (fun _ _ _ _ => rfl) l l (by omega) rfl)
/-- the bytes of n, the lowest m + 1 of them, the highest first -/
def be (n : Int) : Nat → List Int
  | 0 => [n % 256]
  | m + 1 => (n / 256 ^ (m + 1) % 256) :: be n m
def fits (n : Int) (j : Nat) : Prop := -128 ≤ n / 256 ^ j ∧ n / 256 ^ j ≤ 127

theorem be_length (n : Int) (m : Nat) : (be n m).length = m + 1 := by induction m with
  | zero => rfl
  | succ m ih => simp [be, ih]

theorem pow_nn (j : Nat) : (0 : Int) ≤ 256 ^ j := Int.le_of_lt (Int.pow_pos (by decide))
theorem div_step (n : Int) (j : Nat) : n / 256 ^ j / 256 = n / 256 ^ (j + 1) := by
  rw [Int.pow_succ, Int.ediv_ediv_of_nonneg (pow_nn j)]
theorem pow_8 (j : Nat) : (2 : Int) ^ (8 * j) = 256 ^ j := by rw [Int.pow_mul]; rfl
theorem shr_byte (n : Int) (j : Nat) (h : j ≤ 7) : shr .i64 n (8 * (j : Int)) = n / 256 ^ j := by
  unfold shr
  rw [show (8 * (j : Int)).toNat = 8 * j by omega, Nat.min_eq_left (by simp [IntKind.bits]; omega), pow_8]
theorem shr_sign (n : Int) (j : Nat) (h : j ≤ 7) : shr .i64 n (8 * (j : Int) + 7) = n / 256 ^ j / 128 := by
  unfold shr
  rw [show (8 * (j : Int) + 7).toNat = 8 * j + 7 by omega, Nat.min_eq_left (by simp [IntKind.bits]; omega), Int.pow_add, pow_8, Int.ediv_ediv_of_nonneg (pow_nn j)]; rfl
theorem fits_7 (n : Int) (h : (Lit.int .i64 n).wf = true) : fits n 7 := by
  have := wf64 h
  unfold fits
  rw [show (256 : Int) ^ 7 = 72057594037927936 by decide]
  omega

theorem spec_go (n : Int) (J : Nat) (hf : fits n J) (hJ : J ≤ 7) : ∀ (d j : Nat), j + d = J → (∀ i, j ≤ i → i < J → ¬ fits n i) → Ev (fun k => spec_IntBytes.l0 k (n / 256 ^ j) (be n j)) (be n J) := by
  intro d
  induction d with
  | zero =>
    intro j hj hn
    obtain rfl : j = J := by omega
    unfold fits at hf
    exact Ev.step (fun k => spec_IntBytes.l0.eq_2 _ _ _) (ev_neg (by omega) (ev_neg (by omega) (Ev.now _)))
  | succ d ih =>
    intro j hj hn
    have h1 := hn j (by omega) (by omega)
    have hl := be_length n j
    have h2 := ih (j + 1) (by omega) (fun i a b => hn i (by omega) b)
    refine Ev.step (fun k => spec_IntBytes.l0.eq_2 _ _ _) ?_
    by_cases c : n / 256 ^ j > 127
    · refine ev_pos c (Ev.bind (Ev.now _) (ev_pos (by simp; omega) ?_))
      rw [div_step]; exact h2
    · refine ev_neg c (ev_pos (by unfold fits at h1; omega) (Ev.bind (Ev.now _) (ev_pos (by simp; omega) ?_)))
      rw [div_step]; exact h2

theorem impl_put (n : Int) (J : Nat) (hJ : J ≤ 7) : ∀ (i : Nat) (x : List Int), i ≤ J → x ++ be n i = be n J → Ev (fun k => impl_IntBytes.l1 k n x (i : Int)) (be n J) := by
  intro i
  induction i with
  | zero =>
    intro x hi hx
    have hl : x.length < 100 := by have := congrArg List.length hx; simp [be_length] at this; omega
    refine Ev.step (fun k => impl_IntBytes.l1.eq_2 _ _ _ _) (ev_pos (by omega) (ev_pos (by unfold wrap64; omega) (ev_pos (by omega) ?_)))
    rw [w64 (by omega) (by omega), w64 (by omega) (by omega), shr_byte n 0 (by omega)]
    refine Ev.step (fun k => impl_IntBytes.l1.eq_2 _ _ _ _) (ev_neg (by omega) ?_)
    rw [← hx]; simp [be]; exact Ev.now _
  | succ i ih =>
    intro x hi hx
    have hl : x.length < 100 := by have := congrArg List.length hx; simp [be_length] at this; omega
    refine Ev.step (fun k => impl_IntBytes.l1.eq_2 _ _ _ _) (ev_pos (by omega) (ev_pos (by unfold wrap64; omega) (ev_pos (by omega) ?_)))
    rw [w64 (by omega) (by omega), w64 (by omega) (by omega), shr_byte n (i + 1) (by omega), show ((i + 1 : Nat) : Int) - 1 = i by omega]
    exact ih _ (by omega) (by rw [← hx]; simp [be])

theorem impl_go (n : Int) (J : Nat) (hf : fits n J) (hJ : J ≤ 7) : ∀ (d j : Nat), j + d = J → (∀ i, j ≤ i → i < J → ¬ fits n i) → Ev (fun k => impl_IntBytes.l0 k n (j + 1)) (be n J) := by
  have last : Ev (fun k => impl_IntBytes.j1 k n (J + 1)) (be n J) := by
    refine Ev.step (fun k => impl_IntBytes.j1.eq_2 _ _ _) ?_
    rw [w64 (by omega) (by omega), show ((J : Int) + 1 - 1) = J by omega]
    exact impl_put n J hJ J [] (by omega) (by simp)
  intro d
  induction d with
  | zero =>
    intro j hj hn
    obtain rfl : j = J := by omega
    unfold fits at hf
    refine Ev.step (fun k => impl_IntBytes.l0.eq_2 _ _ _) ?_
    by_cases c8 : (j : Int) + 1 < 8
    · refine ev_pos c8 ?_
      rw [show wrap64 (wrap64 (8 * ((j : Int) + 1)) - 1) = 8 * (j : Int) + 7 by unfold wrap64; omega, shr_sign n j (by omega)]
      refine ev_pos (by omega) ?_
      by_cases c0 : n / 256 ^ j / 128 = 0
      · exact ev_pos c0 last
      · exact ev_neg c0 (ev_pos (by omega) last)
    · exact ev_neg c8 last
  | succ d ih =>
    intro j hj hn
    have h1 := hn j (by omega) (by omega)
    have h2 := ih (j + 1) (by omega) (fun i a b => hn i (by omega) b)
    unfold fits at h1
    refine Ev.step (fun k => impl_IntBytes.l0.eq_2 _ _ _) (ev_pos (by omega) ?_)
    rw [show wrap64 (wrap64 (8 * ((j : Int) + 1)) - 1) = 8 * (j : Int) + 7 by unfold wrap64; omega, shr_sign n j (by omega)]
    refine ev_pos (by omega) (ev_neg (by omega) (ev_neg (by omega) ?_))
    rw [w64 (by omega) (by omega)]
    exact h2

theorem first_fit (n : Int) (h : (Lit.int .i64 n).wf = true) : ∃ J, J ≤ 7 ∧ fits n J ∧ ∀ i, i < J → ¬ fits n i := by
  have : ∀ d j, j + d = 7 → (∀ i, i < j → ¬ fits n i) → ∃ J, J ≤ 7 ∧ fits n J ∧ ∀ i, i < J → ¬ fits n i := by
    intro d
    induction d with
    | zero => intro j hj hn; exact ⟨7, by omega, fits_7 n h, fun i hi => hn i (by omega)⟩
    | succ d ih =>
      intro j hj hn
      by_cases c : fits n j
      · exact ⟨j, by omega, c, hn⟩
      · exact ih (j + 1) (by omega) (fun i hi => by by_cases e : i = j; exact e ▸ c; exact hn i (by omega))
  exact this 7 0 rfl (fun i hi => by omega)

theorem intBytes_both (n : Int) (h : (Lit.int .i64 n).wf = true) : ∃ r, r.length ≤ 8 ∧ Ev (fun k => spec_IntBytes.f k n) r ∧ Ev (fun k => impl_IntBytes.f k n) r := by
  obtain ⟨J, hJ, hf, hn⟩ := first_fit n h
  refine ⟨be n J, by rw [be_length]; omega, ?_, ?_⟩
  · have := spec_go n J hf hJ J 0 (by omega) (fun i _ b => hn i b)
    simp only [Int.pow_zero, Int.ediv_one] at this
    exact this
  · exact impl_go n J hf hJ J 0 (by omega) (fun i _ b => hn i b)

theorem read_rest (l : List Int) (hl1 : 1 ≤ l.length) (hl : l.length ≤ 8) : ∀ (d i : Nat) (v : Int), i + 1 + d = l.length → (Lit.int .i64 v).wf = true →
    ∃ r, Ev (fun k => spec_ReadIntBytes.l0 k l v ((i : Int) + 1)) r ∧ Ev (fun k => impl_ReadIntBytes.l0 k l v (l.drop 1) ((l.drop 1).length : Int) (i : Int)) r := by
  intro d
  induction d with
  | zero =>
    intro i v hi hv
    obtain ⟨r, hr, h1, h2⟩ := intBytes_both v hv
    have e : ∀ t, spec_l1Same.f t l = bytes_Equal.f t l := fun _ => rfl
    refine ⟨if ((strOfNums r).toList == (strOfNums l).toList) = true then (v, true) else (0, false), ?_, ?_⟩
    · exact Ev.step (fun k => spec_ReadIntBytes.l0.eq_2 _ _ _ _) (ev_neg (by omega) (Ev.bind h1 (ev_bindc rfl (ev_ite (fun _ => Ev.now _) (fun _ => Ev.now _)))))
    · exact Ev.step (fun k => impl_ReadIntBytes.l0.eq_2 _ _ _ _ _ _) (ev_neg (by simp; omega) (Ev.bind h2 (ev_bindc rfl (ev_ite (fun _ => Ev.now _) (fun _ => Ev.now _)))))
  | succ d ih =>
    intro i v hi hv
    obtain ⟨r, h1, h2⟩ := ih (i + 1) (Go.bits .or .i64 (wrap64 (v * 256)) (wrap64 (rd l ((i : Int) + 1)))) (by omega) (wf_bits _ _ _ _)
    refine ⟨r, ?_, ?_⟩
    · refine Ev.step (fun k => spec_ReadIntBytes.l0.eq_2 _ _ _ _) (ev_pos (by omega) (ev_pos (by omega) ?_))
      rw [w64 (x := (i : Int) + 1 + 1) (by omega) (by omega)]; exact h1
    · refine Ev.step (fun k => impl_ReadIntBytes.l0.eq_2 _ _ _ _ _ _) (ev_pos (by simp; omega) (ev_pos (by omega) (ev_pos (by simp; omega) ?_)))
      rw [show rd (l.drop 1) (i : Int) = rd l ((i : Int) + 1) by simp [rd, show ((i : Int) + 1).toNat = i + 1 by omega, List.getElem?_drop, Nat.add_comm], w64 (x := (i : Int) + 1) (by omega) (by omega)]; exact h2
theorem readInt_both (l : List Int) (hb : ∀ x ∈ l, 0 ≤ x ∧ x ≤ 255) (hl : l.length ≤ 1048576) : ∃ r, Ev (fun k => spec_ReadIntBytes.f k l) r ∧ Ev (fun k => impl_ReadIntBytes.f k l) r := by
  by_cases h : 1 ≤ (l.length : Int) ∧ (l.length : Int) ≤ 8
  · have h0 := hb _ (rd_mem (xs := l) (i := 0) (by omega) (by omega))
    have ew : wrap64 (rd l 0) = rd l 0 := w64 (by omega) (by omega)
    by_cases c : rd l 0 > 127
    · obtain ⟨r, h1, h2⟩ := read_rest l (by omega) (by omega) (l.length - 1) 0 (rd l 0 - 256) (by omega) (wf_of (by omega) (by omega))
      refine ⟨r, ?_, ?_⟩
      · refine ev_bindc (l1In_eq _ _ _) (ev_pos (by simp; omega) (ev_pos (by omega) ?_))
        rw [ew]
        refine ev_pos c ?_
        rw [w64 (by omega) (by omega)]
        exact Ev.step (fun k => spec_ReadIntBytes.j0.eq_2 _ _ _) h1
      · refine ev_bindc (within_eq _ _ _) (ev_pos (by simp; omega) (ev_pos (by omega) (ev_pos (by omega) ?_)))
        rw [show wrap64 (IntKind.i8.wrap (rd l 0)) = rd l 0 - 256 by simp [IntKind.wrap, IntKind.bits, IntKind.signed]; unfold wrap64; split <;> omega]
        exact h2
    · obtain ⟨r, h1, h2⟩ := read_rest l (by omega) (by omega) (l.length - 1) 0 (rd l 0) (by omega) (wf_of (by omega) (by omega))
      refine ⟨r, ?_, ?_⟩
      · refine ev_bindc (l1In_eq _ _ _) (ev_pos (by simp; omega) (ev_pos (by omega) ?_))
        rw [ew]
        refine ev_neg c ?_
        exact Ev.step (fun k => spec_ReadIntBytes.j0.eq_2 _ _ _) h1
      · refine ev_bindc (within_eq _ _ _) (ev_pos (by simp; omega) (ev_pos (by omega) (ev_pos (by omega) ?_)))
        rw [show wrap64 (IntKind.i8.wrap (rd l 0)) = rd l 0 by simp [IntKind.wrap, IntKind.bits, IntKind.signed]; unfold wrap64; split <;> omega]
        exact h2
  · exact ⟨(0, false), ev_bindc (l1In_eq _ _ _) (ev_neg (by rw [decide_eq_false h]; simp) (Ev.now _)), ev_bindc (within_eq _ _ _) (ev_neg (by rw [decide_eq_false h]; simp) (Ev.now _))⟩
theorem FnExactReadIntBytes : laws_FnExactReadIntBytes.Pure := by
  intro l _ _ hw
  by_cases c0 : (l.length : Int) > 1048576
  · exact ev_k (ev_pos c0 (Ev.now _))
  have hb : ∀ x ∈ l, 0 ≤ x ∧ x ≤ 255 := fun x hx => wf8 (hw x hx)
  have h := toByteS_ev l (by omega)
  obtain ⟨r, h1, h2⟩ := readInt_both l hb (by omega)
  refine ev_k (ev_neg c0 (Ev.bind h (Ev.bind h1 (Ev.bind h (Ev.bind h2 (ev_pos rfl ?_))))))
  exact Ev.step (fun k => laws_FnExactReadIntBytes.j0.eq_2 _ _ _ _) (ev_neg (by simp) (Ev.bind h (Ev.bind (eqByteS_ev l (by omega)) (ev_pos rfl (Ev.now _)))))

end Go.Proofs.Ytdnijphfamnnoaa.Pure
