/- A drawn number and drawn identifiers come back from their bytes, of which there are as few as can be. -/
import Derived.Test.YthhomopijhopfaaGFnNumbers7x7
import Derived.Test.YthhomopijhopfaaBase
namespace Go.Proofs.Ythhomopijhopfaa.Pure
open Go.RowKit Go.Proofs.Ythhomopijhopfaa.GFnNumbers7 Go.Proofs.YthhomopijhopfaaW.PrintWords Go.Proofs.YthhomopijhopfaaW.PrintLast Go.Proofs.Ythhomopijhopfaa.Base
set_option linter.unusedVariables false
set_option linter.unusedSimpArgs false

/-! ### draws: what the laws' generators give -/
theorem and255 (x : Int) : 0 ≤ Go.bits .and .i64 x 255 ∧ Go.bits .and .i64 x 255 ≤ 255 := by
  have h : (BitVec.ofInt 64 x &&& BitVec.ofInt 64 255).toNat ≤ 255 := by
    rw [BitVec.toNat_and]
    exact Nat.le_trans Nat.and_le_right (by decide)
  have e : Go.bits .and .i64 x 255 = IntKind.i64.wrap ((BitVec.ofInt 64 x &&& BitVec.ofInt 64 255).toNat : Int) := rfl
  rw [e]
  generalize (BitVec.ofInt 64 x &&& BitVec.ofInt 64 255).toNat = m at h
  rw [wrap_i64_id 62 (by decide) _ (by omega) (by omega)]
  omega
theorem new_ev (l : List Int) (hl : l.length ≤ 1048576) : ∃ s, Ev (fun k => spec_l1New.f k l) (l, 0, s) := by
  have H : ∀ (d i : Nat) (s : Int), i + d = 4000 → ∃ s', Ev (fun k => spec_l1New.l0 k l s (i : Int)) (l, 0, s') := by
    intro d
    induction d with
    | zero =>
      intro i s hi
      by_cases c : (i : Int) < (l.length : Int)
      · exact ⟨s, Ev.step (fun k => spec_l1New.l0.eq_2 _ _ _ _) (ev_pos c (ev_neg (by omega) (Ev.now _)))⟩
      · exact ⟨s, Ev.step (fun k => spec_l1New.l0.eq_2 _ _ _ _) (ev_neg c (Ev.now _))⟩
    | succ d ih =>
      intro i s hi
      by_cases c : (i : Int) < (l.length : Int)
      · obtain ⟨s', h⟩ := ih (i + 1) (Go.bits .and .i64 (wrap64 ((wrap64 ((wrap64 (s * 131)) + (wrap64 (rd l (i : Int))))) + 7)) 1073741823) (by omega)
        refine ⟨s', Ev.step (fun k => spec_l1New.l0.eq_2 _ _ _ _) (ev_pos c (ev_pos (by omega) (ev_pos (by omega) ?_)))⟩
        rw [w64 (x := (i : Int) + 1) (by omega) (by omega)]
        exact h
      · exact ⟨s, Ev.step (fun k => spec_l1New.l0.eq_2 _ _ _ _) (ev_neg c (Ev.now _))⟩
  exact H 4000 0 _ rfl
/-- the place in the bytes that are drawn from -/
structure At (l : List Int) (p : Int) : Prop where
  big : l.length ≤ 1048576
  lo : 0 ≤ p
  hi : p ≤ 1048576
theorem byte_some {l : List Int} {p : Int} (h : At l p) (s : Int) : ∃ b p' s', spec_l1Byte.f l p s = some (b, p', s') ∧ 0 ≤ b ∧ b ≤ 255 ∧ At l p' := by
  unfold spec_l1Byte.f
  have hb := h.big
  have h0 := h.lo
  have h1 := h.hi
  by_cases c : p < (l.length : Int)
  · rw [if_pos c, if_pos h0, w64 (x := p + 1) (by omega) (by omega)]
    exact ⟨_, _, _, rfl, (and255 _).1, (and255 _).2, ⟨hb, by omega, by omega⟩⟩
  · rw [if_neg c]
    exact ⟨_, _, _, rfl, (and255 _).1, (and255 _).2, h⟩
theorem below_some {l : List Int} {p : Int} (h : At l p) (s : Int) (a : Int) (h0 : 0 < a) (h1 : a ≤ 4294967296) : ∃ v p' s', spec_l1Below.f l p s a = some (v, p', s') ∧ 0 ≤ v ∧ v < a ∧ At l p' := by
  unfold spec_l1Below.f
  rw [if_neg (by omega)]
  by_cases c : a ≤ 256
  · rw [if_pos c]
    obtain ⟨b, p', s', e, r0, r1, h'⟩ := byte_some h s
    rw [e]
    simp only [Option.bind_some]
    rw [if_neg (by omega), Int.tmod_eq_emod_of_nonneg r0]
    exact ⟨_, _, _, rfl, Int.emod_nonneg _ (by omega), Int.emod_lt_of_pos _ h0, h'⟩
  · rw [if_neg c]
    obtain ⟨b1, p1, s1, e1, r1, q1, h1'⟩ := byte_some h s
    rw [e1]
    simp only [Option.bind_some]
    obtain ⟨b2, p2, s2, e2, r2, q2, h2'⟩ := byte_some h1' s1
    rw [e2]
    simp only [Option.bind_some]
    obtain ⟨b3, p3, s3, e3, r3, q3, h3'⟩ := byte_some h2' s2
    rw [e3]
    simp only [Option.bind_some]
    obtain ⟨b4, p4, s4, e4, r4, q4, h4'⟩ := byte_some h3' s3
    rw [e4]
    simp only [Option.bind_some]
    rw [if_neg (by omega), w64 (x := b1 * 16777216) (by omega) (by omega), w64 (x := b2 * 65536) (by omega) (by omega), w64 (x := b1 * 16777216 + b2 * 65536) (by omega) (by omega), w64 (x := b3 * 256) (by omega) (by omega),
      w64 (x := b1 * 16777216 + b2 * 65536 + b3 * 256) (by omega) (by omega), w64 (x := b1 * 16777216 + b2 * 65536 + b3 * 256 + b4) (by omega) (by omega), Int.tmod_eq_emod_of_nonneg (by omega)]
    exact ⟨_, _, _, rfl, Int.emod_nonneg _ (by omega), Int.emod_lt_of_pos _ h0, h4'⟩
theorem once_some {l : List Int} {p : Int} (h : At l p) (s : Int) (a : Int) (h0 : 0 < a) (h1 : a ≤ 4294967296) : ∃ v p' s', spec_l1Once.f l p s a = some (v, p', s') ∧ At l p' := by
  unfold spec_l1Once.f
  obtain ⟨v, p', s', e, _, _, h'⟩ := below_some h s a h0 h1
  rw [e]
  exact ⟨_, _, _, rfl, h'⟩
theorem pick_some {l : List Int} {p : Int} (h : At l p) (s : Int) (xs : List Int) (h0 : 0 < xs.length) (h1 : xs.length ≤ 1048576) : ∃ v p' s', spec_l1PickInt.f l p s xs = some (v, p', s') ∧ v ∈ xs ∧ At l p' := by
  unfold spec_l1PickInt.f
  obtain ⟨v, p', s', e, r0, r1, h'⟩ := below_some h s (xs.length : Int) (by omega) (by omega)
  rw [e]
  simp only [Option.bind_some]
  rw [if_pos r0, if_pos r1]
  exact ⟨_, _, _, rfl, rd_mem r0 r1, h'⟩
theorem l1In_eq (x a b : Int) : spec_l1In.f x a b = some (decide (a ≤ x ∧ x ≤ b)) := by
  unfold spec_l1In.f
  by_cases h : x ≥ a
  · rw [if_pos h]; simp [show a ≤ x from h]
  · rw [if_neg h]; simp [show ¬ a ≤ x from h]
theorem within_eq (x a b : Int) : impl_within.f x a b = some (decide (a ≤ x ∧ x ≤ b)) := l1In_eq x a b
/-- the bytes of n, the lowest m + 1 of them, the highest first -/
def be (n : Int) : Nat → List Int
  | 0 => [n % 256]
  | m + 1 => (n / 256 ^ (m + 1) % 256) :: be n m
def fits (n : Int) (j : Nat) : Prop := -128 ≤ n / 256 ^ j ∧ n / 256 ^ j ≤ 127

theorem be_length (n : Int) (m : Nat) : (be n m).length = m + 1 := by induction m with
  | zero => rfl
  | succ m ih => simp [be, ih]

theorem pow_nn (j : Nat) : (0 : Int) ≤ 256 ^ j := Int.le_of_lt (Int.pow_pos (by decide))
theorem div_step (n : Int) (j : Nat) : n / 256 ^ j / 256 = n / 256 ^ (j + 1) := by
  rw [Int.pow_succ, Int.ediv_ediv_of_nonneg (pow_nn j)]
theorem pow_8 (j : Nat) : (2 : Int) ^ (8 * j) = 256 ^ j := by rw [Int.pow_mul]; rfl
theorem shr_byte (n : Int) (j : Nat) (h : j ≤ 7) : shr .i64 n (8 * (j : Int)) = n / 256 ^ j := by
  unfold shr
  rw [show (8 * (j : Int)).toNat = 8 * j by omega, Nat.min_eq_left (by simp [IntKind.bits]; omega), pow_8]
theorem shr_sign (n : Int) (j : Nat) (h : j ≤ 7) : shr .i64 n (8 * (j : Int) + 7) = n / 256 ^ j / 128 := by
  unfold shr
  rw [show (8 * (j : Int) + 7).toNat = 8 * j + 7 by omega, Nat.min_eq_left (by simp [IntKind.bits]; omega), Int.pow_add, pow_8, Int.ediv_ediv_of_nonneg (pow_nn j)]; rfl
theorem fits_7 (n : Int) (h : (Lit.int .i64 n).wf = true) : fits n 7 := by
  have := wf64 h
  unfold fits
  rw [show (256 : Int) ^ 7 = 72057594037927936 by decide]
  omega

theorem impl_put (n : Int) (J : Nat) (hJ : J ≤ 7) : ∀ (i : Nat) (x : List Int), i ≤ J → x ++ be n i = be n J → Ev (fun k => impl_IntBytes.l1 k n x (i : Int)) (be n J) := by
  intro i
  induction i with
  | zero =>
    intro x hi hx
    have hl : x.length < 100 := by have := congrArg List.length hx; simp [be_length] at this; omega
    refine Ev.step (fun k => impl_IntBytes.l1.eq_2 _ _ _ _) (ev_pos (by omega) (ev_pos (by unfold wrap64; omega) (ev_pos (by omega) ?_)))
    rw [w64 (by omega) (by omega), w64 (by omega) (by omega), shr_byte n 0 (by omega)]
    refine Ev.step (fun k => impl_IntBytes.l1.eq_2 _ _ _ _) (ev_neg (by omega) ?_)
    rw [← hx]; simp [be]; exact Ev.now _
  | succ i ih =>
    intro x hi hx
    have hl : x.length < 100 := by have := congrArg List.length hx; simp [be_length] at this; omega
    refine Ev.step (fun k => impl_IntBytes.l1.eq_2 _ _ _ _) (ev_pos (by omega) (ev_pos (by unfold wrap64; omega) (ev_pos (by omega) ?_)))
    rw [w64 (by omega) (by omega), w64 (by omega) (by omega), shr_byte n (i + 1) (by omega), show ((i + 1 : Nat) : Int) - 1 = i by omega]
    exact ih _ (by omega) (by rw [← hx]; simp [be])

theorem impl_go (n : Int) (J : Nat) (hf : fits n J) (hJ : J ≤ 7) : ∀ (d j : Nat), j + d = J → (∀ i, j ≤ i → i < J → ¬ fits n i) → Ev (fun k => impl_IntBytes.l0 k n (j + 1)) (be n J) := by
  have last : Ev (fun k => impl_IntBytes.j1 k n (J + 1)) (be n J) := by
    refine Ev.step (fun k => impl_IntBytes.j1.eq_2 _ _ _) ?_
    rw [w64 (by omega) (by omega), show ((J : Int) + 1 - 1) = J by omega]
    exact impl_put n J hJ J [] (by omega) (by simp)
  intro d
  induction d with
  | zero =>
    intro j hj hn
    obtain rfl : j = J := by omega
    unfold fits at hf
    refine Ev.step (fun k => impl_IntBytes.l0.eq_2 _ _ _) ?_
    by_cases c8 : (j : Int) + 1 < 8
    · refine ev_pos c8 ?_
      rw [show wrap64 (wrap64 (8 * ((j : Int) + 1)) - 1) = 8 * (j : Int) + 7 by unfold wrap64; omega, shr_sign n j (by omega)]
      refine ev_pos (by omega) ?_
      by_cases c0 : n / 256 ^ j / 128 = 0
      · exact ev_pos c0 last
      · exact ev_neg c0 (ev_pos (by omega) last)
    · exact ev_neg c8 last
  | succ d ih =>
    intro j hj hn
    have h1 := hn j (by omega) (by omega)
    have h2 := ih (j + 1) (by omega) (fun i a b => hn i (by omega) b)
    unfold fits at h1
    refine Ev.step (fun k => impl_IntBytes.l0.eq_2 _ _ _) (ev_pos (by omega) ?_)
    rw [show wrap64 (wrap64 (8 * ((j : Int) + 1)) - 1) = 8 * (j : Int) + 7 by unfold wrap64; omega, shr_sign n j (by omega)]
    refine ev_pos (by omega) (ev_neg (by omega) (ev_neg (by omega) ?_))
    rw [w64 (by omega) (by omega)]
    exact h2

theorem first_fit (n : Int) (h : (Lit.int .i64 n).wf = true) : ∃ J, J ≤ 7 ∧ fits n J ∧ ∀ i, i < J → ¬ fits n i := by
  have : ∀ d j, j + d = 7 → (∀ i, i < j → ¬ fits n i) → ∃ J, J ≤ 7 ∧ fits n J ∧ ∀ i, i < J → ¬ fits n i := by
    intro d
    induction d with
    | zero => intro j hj hn; exact ⟨7, by omega, fits_7 n h, fun i hi => hn i (by omega)⟩
    | succ d ih =>
      intro j hj hn
      by_cases c : fits n j
      · exact ⟨j, by omega, c, hn⟩
      · exact ih (j + 1) (by omega) (fun i hi => by by_cases e : i = j; exact e ▸ c; exact hn i (by omega))
  exact this 7 0 rfl (fun i hi => by omega)

/-! ### OidBytes -/
/-- the groups of seven bits of a number, put ahead of what is there -/
def sv : Nat → Int → List Int → List Int
  | 0, _, acc => acc
  | f + 1, x, acc => if x > 0 then sv f (x / 128) ((128 + x % 128) :: acc) else acc
def sev (n : Int) : List Int := sv 8 (n / 128) [n % 128]
theorem sv_length : ∀ (f : Nat) (x : Int) (acc : List Int), (sv f x acc).length ≤ f + acc.length := by
  intro f
  induction f with
  | zero => intro x acc; simp [sv]
  | succ f ih =>
    intro x acc
    unfold sv
    split
    · have := ih (x / 128) ((128 + x % 128) :: acc)
      simp at this; omega
    · omega
theorem sev_length (n : Int) : (sev n).length ≤ 9 := by
  have := sv_length 8 (n / 128) [n % 128]
  unfold sev; simpa using this
theorem pow128_le {i j : Nat} (h : i ≤ j) : (128 : Int) ^ i ≤ 128 ^ j := by
  have := Nat.pow_le_pow_right (n := 128) (by decide) h
  rw [← Int.ofNat_le] at this
  rwa [Int.natCast_pow, Int.natCast_pow] at this
theorem seven_spec_loop : ∀ (f : Nat) (x : Int) (acc : List Int), 0 ≤ x → x < 128 ^ f → f ≤ 8 → acc.length + f ≤ 1000 → Ev (fun k => spec_l7Seven.l0 k x acc) (sv f x acc) := by
  intro f
  induction f with
  | zero =>
    intro x acc h0 h1 _ _
    exact Ev.step (fun k => spec_l7Seven.l0.eq_2 _ _ _) (ev_neg (by omega) (Ev.now _))
  | succ f ih =>
    intro x acc h0 h1 hf ha
    unfold sv
    by_cases c : x > 0
    · rw [if_pos c]
      have hx : x / 128 < 128 ^ f := by rw [Int.pow_succ] at h1; omega
      have hb : x < 2 ^ 62 := by
        have := pow128_le hf
        omega
      refine Ev.step (fun k => spec_l7Seven.l0.eq_2 _ _ _) (ev_pos c (Ev.bind (Ev.now _) (ev_pos (by simp; omega) ?_)))
      rw [Int.tmod_eq_emod_of_nonneg h0, Int.tdiv_eq_ediv_of_nonneg h0, w64 (x := x / 128) (by omega) (by omega), w64 (x := 128 + x % 128) (by omega) (by omega), show (128 + x % 128) % 256 = 128 + x % 128 by omega]
      exact ih _ _ (by omega) hx (by omega) (by simp; omega)
    · rw [if_neg c]; exact Ev.step (fun k => spec_l7Seven.l0.eq_2 _ _ _) (ev_neg c (Ev.now _))
theorem seven_spec (n : Int) (h0 : 0 ≤ n) (h1 : n < 128 ^ 8) : Ev (fun k => spec_l7Seven.f k n) (sev n) := by
  unfold spec_l7Seven.f sev
  rw [Int.tmod_eq_emod_of_nonneg h0, Int.tdiv_eq_ediv_of_nonneg h0, w64 (x := n / 128) (by omega) (by omega), show n % 128 % 256 = n % 128 by omega]
  exact seven_spec_loop 8 _ _ (by omega) (by omega) (by decide) (by simp)
theorem seven_impl_loop : ∀ (f : Nat) (x : Int) (acc : List Int), 0 ≤ x → x < 128 ^ f → f ≤ 8 → acc.length + f ≤ 1000 → Ev (fun k => impl_sevens.l0 k x acc) (sv f x acc.reverse) := by
  have stop : ∀ acc : List Int, acc.length ≤ 1000 → Ev (fun k => (slices_Reverse_byte_byte.f k acc).bind fun t => some t) acc.reverse := fun acc h =>
    Ev.bind (rev_ev (L := slices_Reverse_byte_byte.l0) (fun _ _ _ _ => rfl) acc (by omega)) (Ev.now _)
  intro f
  induction f with
  | zero =>
    intro x acc h0 h1 _ ha
    exact Ev.step (fun k => impl_sevens.l0.eq_2 _ _ _) (ev_neg (by omega) (stop acc (by omega)))
  | succ f ih =>
    intro x acc h0 h1 hf ha
    unfold sv
    by_cases c : x > 0
    · rw [if_pos c]
      have hx : x / 128 < 128 ^ f := by rw [Int.pow_succ] at h1; omega
      have hb : x < 2 ^ 62 := by
        have := pow128_le hf
        omega
      refine Ev.step (fun k => impl_sevens.l0.eq_2 _ _ _) (ev_pos c (ev_pos (by omega) ?_))
      have e1 : Go.bits .and .i64 x 127 = x % 128 := and_mask 7 (by decide) h0 hb
      have e2 : Go.bits .or .i64 (x % 128) 128 = 128 + x % 128 := by
        rw [bits_or_comm]; exact or_add 7 (by decide) (by decide) (by decide) (by decide) (by omega) (by omega)
      rw [e1, e2, show (128 + x % 128) % 256 = 128 + x % 128 by omega]
      have := ih (x / 128) (acc ++ [128 + x % 128]) (by omega) hx (by omega) (by simp; omega)
      rw [List.reverse_append] at this
      exact this
    · rw [if_neg c]; exact Ev.step (fun k => impl_sevens.l0.eq_2 _ _ _) (ev_neg c (stop acc (by omega)))
theorem seven_impl (n : Int) (h0 : 0 ≤ n) (h1 : n < 128 ^ 8) : Ev (fun k => impl_sevens.f k n) (sev n) := by
  unfold impl_sevens.f sev
  have e1 : Go.bits .and .i64 n 127 = n % 128 := and_mask 7 (by decide) h0 (by omega)
  rw [e1, show n % 128 % 256 = n % 128 by omega]
  exact seven_impl_loop 8 _ [n % 128] (by omega) (by omega) (by decide) (by simp)
/-- when numbers have bytes -/
def inB (a b x : Int) : Bool := decide (a ≤ x ∧ x ≤ b)
def oidB (l : List Int) : Bool := inB 2 12 (l.length : Int) && (inB 0 2 (rd l 0) && (inB 0 (if rd l 0 = 2 then 1000000 else 39) (rd l 1) && (l.drop 2).all (inB 0 1000000000)))
def oidL (l : List Int) : List Int := sev (40 * rd l 0 + rd l 1) ++ ((l.drop 2).map sev).flatten
theorem flat_length (l : List Int) : ((l.map sev).flatten).length ≤ 9 * l.length := by
  induction l with
  | nil => simp
  | cons a l ih => have := sev_length a; simp at ih ⊢; omega
theorem allWithin_ev (l : List Int) (a b : Int) (hl : l.length ≤ 1099511627776) : Ev (fun k => impl_allWithin.f k l a b) (l.all (inB a b)) := by
  rw [← all_range_rd, ← Bool.and_true (List.all _ _)]
  refine all_ev (L := fun k i => impl_allWithin.l0 k a b l (l.length : Int) i) l.length ?_ ?_ ?_
  · intro i hi hp r h
    refine Ev.step (fun k => impl_allWithin.l0.eq_2 _ _ _ _ _ _) (ev_pos (by omega) (ev_pos (by omega) (ev_pos (by omega) (ev_bindc (within_eq _ _ _) (ev_pos hp ?_)))))
    rw [w64 (by omega) (by omega)]; exact h
  · intro i hi hp
    exact Ev.step (fun k => impl_allWithin.l0.eq_2 _ _ _ _ _ _) (ev_pos (by omega) (ev_pos (by omega) (ev_pos (by omega) (ev_bindc (within_eq _ _ _) (ev_neg (by unfold inB at hp; rw [hp]; simp) (Ev.now _))))))
  · exact Ev.step (fun k => impl_allWithin.l0.eq_2 _ _ _ _ _ _) (ev_neg (by omega) (Ev.now _))
theorem oidOk_ev (l : List Int) (hl : l.length ≤ 2097152) : Ev (fun k => impl_oidOk.f k l) (oidB l) := by
  have no : Ev (fun k => impl_oidOk.j0 k l true) false := Ev.step (fun k => impl_oidOk.j0.eq_2 _ _ _) (ev_pos rfl (Ev.now _))
  unfold oidB
  refine ev_bindc (within_eq _ _ _) ?_
  change Ev (fun k => if inB 2 12 (l.length : Int) = true then _ else _) _
  cases h1 : inB 2 12 (l.length : Int) with
  | false => exact ev_neg (by simp) no
  | true =>
    have h1' := of_decide_eq_true h1
    refine ev_pos rfl (ev_pos (by omega) (ev_bindc (within_eq _ _ _) ?_))
    change Ev (fun k => impl_oidOk.j0 k l (!(inB 0 2 (rd l 0)))) _
    cases h2 : inB 0 2 (rd l 0) with
    | false => exact no
    | true =>
      refine Ev.step (fun k => impl_oidOk.j0.eq_2 _ _ _) (ev_neg (by simp) (ev_pos (by omega) ?_))
      by_cases c : rd l 0 = 2
      · rw [if_pos c]
        refine ev_pos c (ev_pos (by omega) (ev_bindc (within_eq _ _ _) ?_))
        change Ev (fun k => if inB 0 1000000 (rd l 1) = true then _ else _) _
        cases h3 : inB 0 1000000 (rd l 1) with
        | false => exact ev_neg (by simp) (Ev.now _)
        | true => exact ev_pos rfl (ev_pos (by omega) (Ev.bind (allWithin_ev (l.drop 2) _ _ (by simp; omega)) (Ev.now _)))
      · rw [if_neg c]
        refine ev_neg c (ev_pos (by omega) (ev_bindc (within_eq _ _ _) ?_))
        change Ev (fun k => if inB 0 39 (rd l 1) = true then _ else _) _
        cases h3 : inB 0 39 (rd l 1) with
        | false => exact ev_neg (by simp) (Ev.now _)
        | true => exact ev_pos rfl (ev_pos (by omega) (Ev.bind (allWithin_ev (l.drop 2) _ _ (by simp; omega)) (Ev.now _)))
theorem oidB_parts {l : List Int} (h : oidB l = true) : (2 ≤ l.length ∧ l.length ≤ 12) ∧ (0 ≤ rd l 0 ∧ rd l 0 ≤ 2) ∧ (0 ≤ rd l 1 ∧ rd l 1 ≤ 1000000 ∧ (rd l 0 < 2 → rd l 1 ≤ 39)) ∧ (∀ x ∈ l.drop 2, 0 ≤ x ∧ x ≤ 1000000000) := by
  unfold oidB inB at h
  simp only [Bool.and_eq_true, List.all_eq_true, decide_eq_true_eq] at h
  obtain ⟨a, b, c, d⟩ := h
  refine ⟨by omega, b, ⟨c.1, ?_, ?_⟩, d⟩
  · split at c <;> omega
  · intro h; rw [if_neg (by omega)] at c; exact c.2
theorem drop_cons (l : List Int) (i : Nat) (h : i < l.length) : l.drop i = rd l (i : Int) :: l.drop (i + 1) := by
  rw [List.drop_eq_getElem_cons h]; simp [rd, h]
theorem impl_oid (l : List Int) (hl : l.length ≤ 2097152) : Ev (fun k => impl_OidBytes.f k l) (if oidB l = true then (oidL l, true) else ([], false)) := by
  refine Ev.bind (oidOk_ev l hl) ?_
  cases h : oidB l with
  | false => exact ev_neg (by simp) (Ev.now _)
  | true =>
    obtain ⟨h1, h2, h3, h4⟩ := oidB_parts h
    have e : wrap64 (wrap64 (40 * rd l 0) + rd l 1) = 40 * rd l 0 + rd l 1 := by unfold wrap64; omega
    refine ev_pos rfl (ev_pos (by omega) (ev_pos (by omega) ?_))
    rw [e]
    refine Ev.bind (seven_impl _ (by omega) (by omega)) (ev_pos (by omega) ?_)
    clear e
    have hdl : (l.drop 2).length ≤ 10 := by rw [List.length_drop]; omega
    have key : ∀ (d i : Nat) (acc : List Int), i + d = (l.drop 2).length → acc.length + 9 * d ≤ 1000 → Ev (fun k => impl_OidBytes.l0 k acc (l.drop 2) ((l.drop 2).length : Int) (i : Int)) (acc ++ (((l.drop 2).drop i).map sev).flatten, true) := by
      intro d
      induction d with
      | zero =>
        intro i acc hi ha
        rw [List.drop_of_length_le (i := i) (by omega)]
        refine Ev.step (fun k => impl_OidBytes.l0.eq_2 _ _ _ _ _) (ev_neg (by omega) ?_)
        simpa using Ev.now _
      | succ d ih =>
        intro i acc hi ha
        have hx := h4 _ (rd_mem (xs := l.drop 2) (i := (i : Int)) (by omega) (by omega))
        have hs := sev_length (rd (l.drop 2) (i : Int))
        have := ih (i + 1) (acc ++ sev (rd (l.drop 2) (i : Int))) (by omega) (by simp; omega)
        rw [drop_cons (l.drop 2) i (by omega)]
        refine Ev.step (fun k => impl_OidBytes.l0.eq_2 _ _ _ _ _) (ev_pos (by omega) (ev_pos (by omega) (ev_pos (by omega) (Ev.bind (seven_impl _ (by omega) (by omega)) (ev_pos (by omega) ?_)))))
        rw [w64 (by omega) (by omega)]
        rw [List.map_cons, List.flatten_cons, ← List.append_assoc]
        exact this
    have hs := sev_length (40 * rd l 0 + rd l 1)
    exact key (l.drop 2).length 0 (sev (40 * rd l 0 + rd l 1)) (by omega) (by simp; omega)
theorem spec_oid (l : List Int) (hl : l.length ≤ 2097152) : Ev (fun k => spec_OidBytes.f k l) (if oidB l = true then (oidL l, true) else ([], false)) := by
  have no : Ev (fun k => spec_OidBytes.j0 k l [] true) ([], false) := Ev.step (fun k => spec_OidBytes.j0.eq_2 _ _ _ _) (ev_pos rfl (Ev.now _))
  refine Ev.bind (Ev.now _) (ev_bindc (l1In_eq _ _ _) ?_)
  change Ev (fun k => if inB 2 12 (l.length : Int) = true then _ else _) _
  unfold oidB
  cases h1 : inB 2 12 (l.length : Int) with
  | false => exact ev_neg (by simp) no
  | true =>
    have h1' := of_decide_eq_true h1
    refine ev_pos rfl (ev_pos (by omega) (ev_bindc (l1In_eq _ _ _) ?_))
    change Ev (fun k => if inB 0 2 (rd l 0) = true then _ else _) _
    cases h2 : inB 0 2 (rd l 0) with
    | false => exact ev_neg (by simp) no
    | true =>
      have h2' := of_decide_eq_true h2
      refine ev_pos rfl (ev_pos (by omega) (ev_bindc (l1In_eq _ _ _) ?_))
      change Ev (fun k => if inB 0 1000000 (rd l 1) = true then _ else _) _
      have body : ∀ hz : 0 ≤ rd l 1 ∧ rd l 1 ≤ 1000000, Ev (fun k => spec_OidBytes.j0 k l [] false) (if (l.drop 2).all (inB 0 1000000000) = true then (oidL l, true) else ([], false)) := by
        intro hz
        have e : wrap64 (wrap64 (40 * rd l 0) + rd l 1) = 40 * rd l 0 + rd l 1 := by unfold wrap64; omega
        refine Ev.step (fun k => spec_OidBytes.j0.eq_2 _ _ _ _) (ev_neg (by simp) (ev_pos (by omega) (ev_pos (by omega) ?_)))
        rw [e]
        refine Ev.bind (seven_spec _ (by omega) (by omega)) ?_
        clear e
        have key : ∀ (d i : Nat) (acc : List Int), i + d = l.length → acc.length + 9 * d ≤ 1000 → Ev (fun k => spec_OidBytes.l0 k l [] acc (i : Int)) (if (l.drop i).all (inB 0 1000000000) = true then (acc ++ ((l.drop i).map sev).flatten, true) else ([], false)) := by
          intro d
          induction d with
          | zero =>
            intro i acc hi ha
            rw [List.drop_of_length_le (i := i) (by omega)]
            refine Ev.step (fun k => spec_OidBytes.l0.eq_2 _ _ _ _ _) (ev_neg (by omega) ?_)
            simpa using Ev.now _
          | succ d ih =>
            intro i acc hi ha
            have hs := sev_length (rd l (i : Int))
            have := ih (i + 1) (acc ++ sev (rd l (i : Int))) (by omega) (by simp; omega)
            rw [drop_cons l i (by omega)]
            refine Ev.step (fun k => spec_OidBytes.l0.eq_2 _ _ _ _ _) (ev_pos (by omega) (ev_pos (by omega) (ev_bindc (l1In_eq _ _ _) ?_)))
            change Ev (fun k => if inB 0 1000000000 (rd l (i : Int)) = true then _ else _) _
            cases c : inB 0 1000000000 (rd l (i : Int)) with
            | false =>
              rw [if_neg (by simp [c])]
              exact ev_neg (by simp) (Ev.now _)
            | true =>
              have c' := of_decide_eq_true c
              refine ev_pos rfl (Ev.bind (seven_spec _ (by omega) (by omega)) (ev_pos (by omega) ?_))
              rw [w64 (by omega) (by omega)]
              rw [List.map_cons, List.flatten_cons, ← List.append_assoc, List.all_cons, c, Bool.true_and]
              exact this
        have hs := sev_length (40 * rd l 0 + rd l 1)
        exact key (l.length - 2) 2 (sev (40 * rd l 0 + rd l 1)) (by omega) (by omega)
      by_cases c : rd l 0 = 2
      · rw [if_pos c]
        cases h3 : inB 0 1000000 (rd l 1) with
        | false => exact ev_neg (by simp) no
        | true =>
          exact ev_pos rfl (ev_neg (by omega) (body (of_decide_eq_true h3)))
      · rw [if_neg c]
        cases h3 : inB 0 1000000 (rd l 1) with
        | false =>
          have h3' := of_decide_eq_false h3
          have h4 : inB 0 39 (rd l 1) = false := decide_eq_false (by omega)
          rw [h4]
          exact ev_neg (by simp) no
        | true =>
          have h3' := of_decide_eq_true h3
          refine ev_pos rfl (ev_pos (by omega) ?_)
          by_cases c4 : rd l 1 > 39
          · have h4 : inB 0 39 (rd l 1) = false := decide_eq_false (by omega)
            rw [h4, decide_eq_true c4]
            exact no
          · have h4 : inB 0 39 (rd l 1) = true := decide_eq_true (by omega)
            rw [h4, decide_eq_false c4]
            exact body h3'
/-! ### ReadOid -/
def mx (n b : Int) : Int := if n * 128 + b % 128 < 1099511627776 then n * 128 + b % 128 else 1099511627776
def goS : List Int → Int → List Int → List Int
  | [], _, a => a
  | b :: r, n, a => if b ≥ 128 then goS r (mx n b) a else goS r 0 (a ++ [mx n b])
def goI : List Int → Int → List Int → Option (List Int)
  | [], _, a => some a
  | b :: r, n, a => if n * 128 + b % 128 > 1099511627776 then none else if b < 128 then goI r 0 (a ++ [n * 128 + b % 128]) else goI r (n * 128 + b % 128) a
def firstOf (a : Int) : Int := if 2 < a / 40 then 2 else a / 40
def conv : List Int → List Int
  | [] => []
  | a :: t => firstOf a :: (a - 40 * firstOf a) :: t
def fin (bs a : List Int) : List Int × Bool := if oidB (conv a) = true then (if ((strOfNums (oidL (conv a))).toList == (strOfNums bs).toList) = true then (conv a, true) else ([], false)) else ([], false)
theorem conv_length (a : List Int) : (conv a).length ≤ a.length + 1 := by cases a <;> simp [conv]
theorem conv_snoc (a : List Int) (h : a ≠ []) (x : Int) : conv (a ++ [x]) = conv a ++ [x] := by
  cases a with
  | nil => exact absurd rfl h
  | cons y t => rfl
theorem mx_range {n b : Int} (h0 : 0 ≤ n) (h1 : n ≤ 1099511627776) : 0 ≤ mx n b ∧ mx n b ≤ 1099511627776 := by unfold mx; split <;> omega
theorem fin_I (bs a : List Int) (k1 : (conv a).length ≤ 2097152) : Ev (fun k => (impl_OidBytes.f k (conv a)).bind fun bt239 => (if bt239.2 = true then ((bytes_Equal.f bt239.1 bs).bind fun t243 => (if t243 = true then (some (conv a, true)) else (some (([] : List Int), false)))) else (some (([] : List Int), false)))) (fin bs a) := by
  refine Ev.bind (impl_oid (conv a) k1) ?_
  unfold fin
  cases c : oidB (conv a) with
  | false => exact ev_neg (by simp) (by simpa using Ev.now _)
  | true =>
    refine ev_pos (by simp) ?_
    simp only [if_true]
    exact ev_bindc rfl (ev_ite (fun _ => Ev.now _) (fun _ => Ev.now _))
theorem goI_eq (bs : List Int) : ∀ (n : Int) (a a' : List Int), goI bs n a = some a' → goS bs n a = a' := by
  induction bs with
  | nil => intro n a a' h; exact Option.some.inj h
  | cons b r ih =>
    intro n a a' h
    rw [goI] at h
    by_cases c : n * 128 + b % 128 > 1099511627776
    · rw [if_pos c] at h; cases h
    · rw [if_neg c] at h
      have hm : mx n b = n * 128 + b % 128 := by unfold mx; split <;> omega
      rw [goS, hm]
      by_cases c2 : b < 128
      · rw [if_pos c2] at h
        rw [if_neg (by omega)]
        exact ih _ _ _ h
      · rw [if_neg c2] at h
        rw [if_pos (by omega)]
        exact ih _ _ _ h
theorem goS_mem (bs : List Int) : ∀ (n : Int) (a : List Int) (x : Int), x ∈ a → x ∈ goS bs n a := by
  induction bs with
  | nil => intro n a x h; exact h
  | cons b r ih =>
    intro n a x h
    rw [goS]
    split
    · exact ih _ _ _ h
    · exact ih _ _ _ (List.mem_append_left _ h)
theorem goS_sat (bs : List Int) (hb : ∀ x ∈ bs, 0 ≤ x ∧ x ≤ 255) : ∀ (a : List Int), bs = [] ∨ 1099511627776 ∈ goS bs 1099511627776 a ∨ ∃ b, bs.getLast? = some b ∧ b ≥ 128 := by
  induction bs with
  | nil => exact fun _ => .inl rfl
  | cons b r ih =>
    intro a
    have hm : mx 1099511627776 b = 1099511627776 := by unfold mx; rw [if_neg (by omega)]
    rw [goS, hm]
    by_cases c : b ≥ 128
    · rw [if_pos c]
      rcases ih (fun x hx => hb x (List.mem_cons_of_mem _ hx)) a with h | h | ⟨y, h, hy⟩
      · exact .inr (.inr ⟨b, by rw [h]; rfl, c⟩)
      · exact .inr (.inl h)
      · exact .inr (.inr ⟨y, by rw [List.getLast?_cons, h]; rfl, hy⟩)
    · rw [if_neg c]
      exact .inr (.inl (goS_mem _ _ _ _ (List.mem_append_right _ (List.mem_singleton.2 rfl))))
theorem goI_none (bs : List Int) (hb : ∀ x ∈ bs, 0 ≤ x ∧ x ≤ 255) : ∀ (n : Int) (a : List Int), 0 ≤ n → goI bs n a = none → 1099511627776 ∈ goS bs n a ∨ ∃ b, bs.getLast? = some b ∧ b ≥ 128 := by
  induction bs with
  | nil => intro n a _ h; cases h
  | cons b r ih =>
    intro n a h0 h
    have hb' : ∀ x ∈ r, 0 ≤ x ∧ x ≤ 255 := fun x hx => hb x (List.mem_cons_of_mem _ hx)
    rw [goI] at h
    rw [goS]
    by_cases c : n * 128 + b % 128 > 1099511627776
    · have hm : mx n b = 1099511627776 := by unfold mx; rw [if_neg (by omega)]
      rw [hm]
      by_cases c2 : b ≥ 128
      · rw [if_pos c2]
        rcases goS_sat r hb' a with h | h | ⟨y, h, hy⟩
        · exact .inr ⟨b, by rw [h]; rfl, c2⟩
        · exact .inl h
        · exact .inr ⟨y, by rw [List.getLast?_cons, h]; rfl, hy⟩
      · rw [if_neg c2]
        exact .inl (goS_mem _ _ _ _ (List.mem_append_right _ (List.mem_singleton.2 rfl)))
    · rw [if_neg c] at h
      have hm : mx n b = n * 128 + b % 128 := by unfold mx; split <;> omega
      rw [hm]
      have step : ∀ m (a2 : List Int), 0 ≤ m → goI r m a2 = none → 1099511627776 ∈ goS r m a2 ∨ ∃ y, (b :: r).getLast? = some y ∧ y ≥ 128 := fun m a2 hm h => by
        rcases ih hb' m a2 hm h with h | ⟨y, h, hy⟩
        · exact .inl h
        · exact .inr ⟨y, by rw [List.getLast?_cons, h]; rfl, hy⟩
      by_cases c2 : b < 128
      · rw [if_pos c2] at h
        rw [if_neg (by omega)]
        exact step _ _ (by omega) h
      · rw [if_neg c2] at h
        rw [if_pos (by omega)]
        exact step _ _ (by omega) h
theorem big_no (a : List Int) (h : 1099511627776 ∈ a) : oidB (conv a) = false := by
  cases a with
  | nil => cases h
  | cons y t =>
    cases c : oidB (conv (y :: t)) with
    | false => rfl
    | true =>
      obtain ⟨_, _, h3, h4⟩ := oidB_parts c
      rcases List.mem_cons.1 h with e | e
      · subst e
        have : rd (conv (1099511627776 :: t)) 1 = 1099511627776 - 80 := rfl
        omega
      · have := h4 _ (by simpa [conv] using e)
        omega
theorem sv_last : ∀ (f : Nat) (x : Int) (acc : List Int), acc ≠ [] → (sv f x acc).getLast? = acc.getLast? := by
  intro f
  induction f with
  | zero => intro x acc _; rfl
  | succ f ih =>
    intro x acc h
    unfold sv
    split
    · rw [ih _ _ (by simp), List.getLast?_cons]
      cases acc with
      | nil => exact absurd rfl h
      | cons y t => rw [List.getLast?_cons]; rfl
    · rfl
def LastLow (l : List Int) : Prop := ∀ y, l.getLast? = some y → 0 ≤ y ∧ y < 128
theorem LastLow.append {a b : List Int} (ha : LastLow a) (hb : LastLow b) : LastLow (a ++ b) := by
  intro y h
  rw [List.getLast?_append] at h
  cases c : b.getLast? with
  | none => rw [c] at h; exact ha y (by simpa using h)
  | some z => rw [c] at h; exact hb y (by rw [c]; simpa using h)
theorem sev_low (n : Int) : LastLow (sev n) := by
  intro y h
  unfold sev at h
  rw [sv_last _ _ _ (by simp)] at h
  have : y = n % 128 := by simpa using h.symm
  omega
theorem oidL_low (l : List Int) : LastLow (oidL l) := by
  refine (sev_low _).append ?_
  induction l.drop 2 with
  | nil => intro y h; cases h
  | cons x t ih => exact (sev_low x).append ih
theorem str_lists {a b : List Int} (h : ((strOfNums a).toList == (strOfNums b).toList) = true) : a.map (fun n => UInt8.ofNat n.toNat) = b.map (fun n => UInt8.ofNat n.toNat) := by
  have h2 := eq_of_beq h
  have e : ∀ l : List Int, (strOfNums l).toList = l.map (fun n => UInt8.ofNat n.toNat) := fun l => Lib.strOfNums_toList l
  rw [e, e] at h2
  exact h2
theorem fin_no (bs a : List Int) (hb : ∀ x ∈ bs, 0 ≤ x ∧ x ≤ 255) (h : 1099511627776 ∈ a ∨ (∃ b, bs.getLast? = some b ∧ b ≥ 128) ∨ 100 < bs.length) : fin bs a = ([], false) := by
  unfold fin
  cases c : oidB (conv a) with
  | false => rfl
  | true =>
    rw [if_pos rfl]
    rcases h with h | ⟨b, h1, h2⟩ | h
    · rw [big_no a h] at c; cases c
    · refine if_neg (fun e => ?_)
      have e2 := congrArg List.getLast? (str_lists e)
      rw [List.getLast?_map, List.getLast?_map, h1] at e2
      cases g : (oidL (conv a)).getLast? with
      | none => rw [g] at e2; cases e2
      | some y =>
        rw [g] at e2
        have hy := oidL_low _ y g
        have hbb := hb b (List.mem_of_getLast? h1)
        have e3 := congrArg UInt8.toNat (Option.some.inj e2)
        simp only [UInt8.toNat_ofNat'] at e3
        omega
    · refine if_neg (fun e => ?_)
      have e2 := congrArg List.length (str_lists e)
      rw [List.length_map, List.length_map] at e2
      obtain ⟨p, _⟩ := oidB_parts c
      have h2 := sev_length (40 * rd (conv a) 0 + rd (conv a) 1)
      have h3 := flat_length ((conv a).drop 2)
      simp only [oidL, List.length_append] at e2
      rw [List.length_drop] at h3
      omega
theorem oidB_nil : oidB [] = false := by simp [oidB, inB]
theorem insert_eq (h f : Int) (t : List Int) (hl : (h :: t).length < 1099511627776) : Hand.slices_Insert_int.f (h :: t) 0 [f] = some (f :: h :: t) := by
  unfold Hand.slices_Insert_int.f
  rw [if_pos (by omega), if_pos (by omega), if_pos (show [f].length = 1 from rfl), if_pos hl]
  rfl
set_option maxRecDepth 100000 in
theorem or_low (n b : Int) (h0 : 0 ≤ n) (h1 : n ≤ 1099511627776) (hx : 0 ≤ b ∧ b ≤ 255) : Go.bits .or .i64 (wrap64 (n * 128)) (wrap64 (Go.bits .and .u8 b 127)) = n * 128 + b % 128 := by
  have e : Go.bits .and .u8 b 127 = b % 128 := by
    obtain ⟨m, rfl⟩ : ∃ m : Nat, b = (m : Int) := ⟨b.toNat, by omega⟩
    have hm : m < 256 := by omega
    have : ∀ m : Fin 256, Go.bits .and .u8 ((m.1 : Nat) : Int) 127 = ((m.1 : Nat) : Int) % 128 := by decide
    exact this ⟨m, hm⟩
  rw [e, w64 (x := n * 128) (by omega) (by omega), w64 (x := b % 128) (by omega) (by omega)]
  exact or_add 7 (by decide) (by omega) (by omega) (by omega) (by omega) (by omega)
theorem impl_oid_loop (bs : List Int) (hb : ∀ x ∈ bs, 0 ≤ x ∧ x ≤ 255) (hl : bs.length ≤ 1048576) : ∀ (d i : Nat) (n : Int) (a : List Int), i + d = bs.length → 0 ≤ n → n ≤ 1099511627776 → a.length ≤ i → (∀ x ∈ a, 0 ≤ x ∧ x ≤ 1099511627776) →
    Ev (fun k => impl_ReadOid.l0 k bs a n bs (bs.length : Int) (i : Int)) (match goI (bs.drop i) n a with | none => ([], false) | some a' => fin bs a') := by
  intro d
  induction d with
  | zero =>
    intro i n a hi h0 h1 ha hr
    rw [List.drop_of_length_le (by omega), goI]
    refine Ev.step (fun k => impl_ReadOid.l0.eq_2 _ _ _ _ _ _ _) (ev_neg (by omega) ?_)
    cases a with
    | nil =>
      have : fin bs [] = ([], false) := by simp [fin, conv, oidB_nil]
      rw [show (match some [] with | none => (([] : List Int), false) | some a' => fin bs a') = fin bs [] from rfl, this]
      exact ev_pos rfl (Ev.now _)
    | cons h t =>
      have hh := hr h (by simp)
      have hlt : (h :: t).length ≤ 1048576 := by omega
      simp only [List.length_cons] at hlt
      have hf : mn 2 (wrap64 (Int.tdiv (rd (h :: t) 0) 40)) = firstOf h := by
        rw [show rd (h :: t) 0 = h from rfl, Int.tdiv_eq_ediv_of_nonneg hh.1, w64 (x := h / 40) (by omega) (by omega)]
        unfold mn firstOf
        split <;> split <;> omega
      have hf2 : 0 ≤ firstOf h ∧ firstOf h ≤ 2 := by unfold firstOf; split <;> omega
      refine ev_neg (by simp; try omega) (ev_pos (by simp; try omega) ?_)
      rw [hf]
      refine ev_bindc (insert_eq h (firstOf h) t (by simp; try omega)) (ev_pos (by simp; try omega) (Ev.bind (Ev.now _) ?_))
      rw [show rd (firstOf h :: h :: t) 1 = h from rfl, w64 (x := 40 * firstOf h) (by omega) (by omega), w64 (x := h - 40 * firstOf h) (by omega) (by omega)]
      exact fin_I bs (h :: t) (by simp [conv]; omega)
  | succ d ih =>
    intro i n a hi h0 h1 ha hr
    have hx := hb _ (rd_mem (xs := bs) (i := (i : Int)) (by omega) (by omega))
    rw [drop_cons bs i (by omega), goI]
    generalize hbb : rd bs (i : Int) = b at hx
    have hi' : Aside0 (wrap64 ((i : Int) + 1) = ((i + 1 : Nat) : Int)) := ⟨by rw [w64 (by omega) (by omega)]; rfl⟩
    refine Ev.step (fun k => impl_ReadOid.l0.eq_2 _ _ _ _ _ _ _) (ev_pos (by omega) (ev_pos (by omega) (ev_pos (by omega) ?_)))
    rw [hbb, or_low n b h0 h1 hx, hi'.out]
    clear hi' hbb
    by_cases c : n * 128 + b % 128 > 1099511627776
    · rw [if_pos c]
      exact ev_pos c (Ev.now _)
    · rw [if_neg c]
      refine ev_neg c ?_
      by_cases c2 : b < 128
      · rw [if_pos c2]
        exact ev_pos c2 (ev_pos (by omega) (ih (i + 1) 0 (a ++ [n * 128 + b % 128]) (by omega) (by omega) (by omega) (by simp; omega) (fun x hx => by
          rcases List.mem_append.1 hx with h | h
          · exact hr x h
          · rw [List.mem_singleton.1 h]; omega)))
      · rw [if_neg c2]
        exact ev_neg c2 (ih (i + 1) _ a (by omega) (by omega) (by omega) (by omega) hr)
/-! ### what is written of numbers is read as them -/
theorem sv_range : ∀ (f : Nat) (x : Int) (acc : List Int), (∀ y ∈ acc, 0 ≤ y ∧ y ≤ 255) → ∀ y ∈ sv f x acc, 0 ≤ y ∧ y ≤ 255 := by
  intro f
  induction f with
  | zero => intro x acc h; exact h
  | succ f ih =>
    intro x acc h
    unfold sv
    split
    · refine ih _ _ (fun y hy => ?_)
      rcases List.mem_cons.1 hy with e | e
      · omega
      · exact h y e
    · exact h
theorem sev_range (n : Int) : ∀ y ∈ sev n, 0 ≤ y ∧ y ≤ 255 := sv_range _ _ _ (fun y hy => by rw [List.mem_singleton.1 hy]; omega)
theorem oidL_range (l : List Int) : ∀ y ∈ oidL l, 0 ≤ y ∧ y ≤ 255 := by
  intro y hy
  rcases List.mem_append.1 hy with h | h
  · exact sev_range _ y h
  · obtain ⟨s, hs, hy⟩ := List.mem_flatten.1 h
    obtain ⟨n, _, rfl⟩ := List.mem_map.1 hs
    exact sev_range _ y hy
theorem goI_sv (rest a : List Int) : ∀ (f : Nat) (x : Int) (acc : List Int), 0 ≤ x → x < 128 ^ f → x ≤ 1099511627776 → goI (sv f x acc ++ rest) 0 a = goI (acc ++ rest) x a := by
  intro f
  induction f with
  | zero =>
    intro x acc h0 h1 _
    have : x = 0 := by omega
    subst this
    rfl
  | succ f ih =>
    intro x acc h0 h1 h2
    unfold sv
    by_cases c : x > 0
    · rw [if_pos c]
      have hx : x / 128 < 128 ^ f := by rw [Int.pow_succ] at h1; omega
      rw [ih (x / 128) _ (by omega) hx (by omega), List.cons_append, goI]
      rw [show x / 128 * 128 + (128 + x % 128) % 128 = x by omega, if_neg (by omega), if_neg (by omega)]
    · rw [if_neg c]
      have : x = 0 := by omega
      rw [this]
theorem goI_sev (rest a : List Int) (n : Int) (h0 : 0 ≤ n) (h1 : n ≤ 1099511627776) : goI (sev n ++ rest) 0 a = goI rest 0 (a ++ [n]) := by
  unfold sev
  rw [goI_sv rest a 8 (n / 128) [n % 128] (by omega) (by omega) (by omega), List.cons_append, goI]
  rw [show n / 128 * 128 + n % 128 % 128 = n by omega, if_neg (by omega), if_pos (by omega)]
  rfl
theorem goI_flat : ∀ (t a : List Int), (∀ x ∈ t, 0 ≤ x ∧ x ≤ 1000000000) → goI ((t.map sev).flatten) 0 a = some (a ++ t)
  | [], a, _ => by simp [goI]
  | x :: t, a, h => by
    have hx := h x (by simp)
    rw [List.map_cons, List.flatten_cons, goI_sev _ _ x hx.1 (by omega), goI_flat t _ (fun y hy => h y (by simp [hy]))]
    simp
theorem oid_back (l : List Int) (h : oidB l = true) : Ev (fun k => impl_ReadOid.f k (oidL l)) (l, true) := by
  obtain ⟨p, q, r, s⟩ := oidB_parts h
  have hg : goI (oidL l) 0 [] = some ((40 * rd l 0 + rd l 1) :: l.drop 2) := by
    unfold oidL
    rw [goI_sev _ _ _ (by omega) (by omega), goI_flat _ _ s]
    rfl
  have hc : conv ((40 * rd l 0 + rd l 1) :: l.drop 2) = l := by
    have hf : firstOf (40 * rd l 0 + rd l 1) = rd l 0 := by
      unfold firstOf
      have := r.2.2
      split <;> omega
    have d0 := drop_cons l 0 (by omega)
    have d1 := drop_cons l 1 (by omega)
    rw [List.drop_zero] at d0
    show firstOf _ :: (_ - 40 * firstOf _) :: l.drop 2 = l
    rw [hf, show 40 * rd l 0 + rd l 1 - 40 * rd l 0 = rd l 1 by omega]
    rw [d1] at d0
    exact d0.symm
  have h2 := sev_length (40 * rd l 0 + rd l 1)
  have h3 := flat_length (l.drop 2)
  have hlen : (oidL l).length ≤ 100 := by
    simp only [oidL, List.length_append]
    rw [List.length_drop] at h3
    omega
  have hl := impl_oid_loop (oidL l) (oidL_range l) (by omega) (oidL l).length 0 0 [] (by omega) (by omega) (by omega) (by simp) (fun _ h => by cases h)
  rw [List.drop_zero, hg] at hl
  have hfin : fin (oidL l) ((40 * rd l 0 + rd l 1) :: l.drop 2) = (l, true) := by
    unfold fin
    rw [hc, if_pos h, if_pos (by simp)]
  rw [show (match some ((40 * rd l 0 + rd l 1) :: l.drop 2) with | none => (([] : List Int), false) | some a' => fin (oidL l) a') = fin (oidL l) ((40 * rd l 0 + rd l 1) :: l.drop 2) from rfl, hfin] at hl
  exact ev_neg (by omega) hl
/-- what ReadOid says: nothing, or numbers whose bytes are what was read -/
theorem readOid_says (bs : List Int) (hb : ∀ x ∈ bs, 0 ≤ x ∧ x ≤ 255) (hl : bs.length ≤ 1048576) : Ev (fun k => impl_ReadOid.f k bs) ([], false) ∨
    ∃ q, Ev (fun k => impl_ReadOid.f k bs) (q, true) ∧ oidB q = true ∧ ((strOfNums (oidL q)).toList == (strOfNums bs).toList) = true ∧ q.length ≤ 12 := by
  by_cases c : (bs.length : Int) > 100
  · exact .inl (ev_pos c (Ev.now _))
  · have h2 := impl_oid_loop bs hb hl bs.length 0 0 [] (by omega) (by omega) (by omega) (by simp) (fun _ h => by cases h)
    rw [List.drop_zero] at h2
    cases g : goI bs 0 [] with
    | none =>
      rw [g] at h2
      exact .inl (ev_neg c h2)
    | some a' =>
      rw [g] at h2
      have h3 : Ev (fun k => impl_ReadOid.f k bs) (fin bs a') := ev_neg c h2
      unfold fin at h3
      by_cases d : oidB (conv a') = true
      · rw [if_pos d] at h3
        by_cases e : ((strOfNums (oidL (conv a'))).toList == (strOfNums bs).toList) = true
        · rw [if_pos e] at h3
          obtain ⟨p, _⟩ := oidB_parts d
          exact .inr ⟨_, h3, d, e, by omega⟩
        · rw [if_neg e] at h3
          exact .inl h3
      · rw [if_neg d] at h3
        exact .inl h3
/-! ### bytes of a number are read as it; with a byte more they are not -/
theorem or_byte (v b : Int) (h0 : -36028797018963968 ≤ v) (h1 : v ≤ 36028797018963967) (hb0 : 0 ≤ b) (hb1 : b < 256) : Go.bits .or .i64 (v * 256) b = v * 256 + b := by
  show IntKind.i64.wrap ((BitVec.ofInt 64 (v * 256) ||| BitVec.ofInt 64 b).toNat : Int) = _
  rw [BitVec.toNat_or, BitVec.toNat_ofInt, BitVec.toNat_ofInt]
  obtain ⟨q, hq⟩ : ∃ q : Nat, (v * 256 % ((2 ^ 64 : Nat) : Int)).toNat = 2 ^ 8 * q := ⟨(v * 256 % ((2 ^ 64 : Nat) : Int)).toNat / 256, by omega⟩
  obtain ⟨c, hc⟩ : ∃ c : Nat, b = (c : Int) := ⟨b.toNat, by omega⟩
  have hc2 : (b % ((2 ^ 64 : Nat) : Int)).toNat = c := by omega
  rw [hq, hc2, ← Nat.two_pow_add_eq_or_of_lt (by omega : c < 2 ^ 8), IntKind.wrap_i64]
  omega
theorem div_range (n : Int) (h : -9223372036854775808 ≤ n ∧ n ≤ 9223372036854775807) (j : Nat) : -9223372036854775808 ≤ n / 256 ^ j ∧ n / 256 ^ j ≤ 9223372036854775807 := by
  induction j with
  | zero => simpa using h
  | succ j ih => rw [← div_step]; omega
theorem be_get (n : Int) : ∀ (m i : Nat), i ≤ m → (be n m)[i]? = some (n / 256 ^ (m - i) % 256)
  | 0, 0, _ => by simp [be]
  | m + 1, 0, _ => by simp [be]
  | m + 1, i + 1, h => by
    rw [be, List.getElem?_cons_succ, be_get n m i (by omega), show m + 1 - (i + 1) = m - i by omega]
theorem be_range (n : Int) (m : Nat) : ∀ x ∈ be n m, 0 ≤ x ∧ x ≤ 255 := by
  induction m with
  | zero => intro x hx; rw [List.mem_singleton.1 hx]; omega
  | succ m ih =>
    intro x hx
    rcases List.mem_cons.1 hx with e | e
    · rw [e]
      omega
    · exact ih x e
theorem read_be (n : Int) (J m : Nat) (hw : (Lit.int .i64 n).wf = true) (hi : Ev (fun k => impl_IntBytes.f k n) (be n J)) (hm : m ≤ 7) (hf : fits n m) :
    Ev (fun k => impl_ReadIntBytes.f k (be n m)) (if ((strOfNums (be n J)).toList == (strOfNums (be n m)).toList) = true then (n, true) else (0, false)) := by
  have hn := wf64 hw
  have loop : ∀ (j i : Nat), i + j = m → Ev (fun k => impl_ReadIntBytes.l0 k (be n m) (n / 256 ^ j) ((be n m).drop 1) (((be n m).drop 1).length : Int) (i : Int)) (if ((strOfNums (be n J)).toList == (strOfNums (be n m)).toList) = true then (n, true) else (0, false)) := by
    have hl : ((be n m).drop 1).length = m := by rw [List.length_drop, be_length]; omega
    intro j
    induction j with
    | zero =>
      intro i hij
      rw [Int.pow_zero, Int.ediv_one]
      exact Ev.step (fun k => impl_ReadIntBytes.l0.eq_2 _ _ _ _ _ _) (ev_neg (by omega) (Ev.bind hi (ev_bindc rfl (ev_ite (fun _ => Ev.now _) (fun _ => Ev.now _)))))
    | succ j ih =>
      intro i hij
      have ih' := ih (i + 1) (by omega)
      have hg : rd ((be n m).drop 1) (i : Int) = n / 256 ^ j % 256 := by
        rw [rd_nat, List.getD_eq_getElem?_getD, List.getElem?_drop, be_get n m (1 + i) (by omega), show m - (1 + i) = j by omega]
        rfl
      have hr := div_range n hn j
      refine Ev.step (fun k => impl_ReadIntBytes.l0.eq_2 _ _ _ _ _ _) (ev_pos (by omega) (ev_pos (by omega) (ev_pos (by omega) ?_)))
      rw [hg, ← div_step]
      generalize n / 256 ^ j = q at ih' hr
      rw [w64 (x := q / 256 * 256) (by omega) (by omega), w64 (x := q % 256) (by omega) (by omega), or_byte (q / 256) (q % 256) (by omega) (by omega) (by omega) (by omega), w64 (x := (i : Int) + 1) (by omega) (by omega), show q / 256 * 256 + q % 256 = q by omega]
      exact ih'
  refine ev_bindc (within_eq _ _ _) (ev_pos (by rw [be_length]; simp; omega) (ev_pos (by rw [be_length]; omega) (ev_pos (by rw [be_length]; omega) ?_)))
  have h0 : rd (be n m) 0 = n / 256 ^ m % 256 := by
    have := rd_nat (be n m) 0
    rw [List.getD_eq_getElem?_getD, be_get n m 0 (by omega)] at this
    exact this
  have hq : wrap64 (IntKind.i8.wrap (rd (be n m) 0)) = n / 256 ^ m := by
    rw [h0]
    unfold fits at hf
    generalize n / 256 ^ m = q at hf ⊢
    simp [IntKind.wrap, IntKind.bits, IntKind.signed]
    unfold wrap64
    split <;> omega
  rw [hq]
  exact loop m 0 (by omega)
theorem fits_up (n : Int) (m : Nat) (h : fits n m) : fits n (m + 1) := by
  unfold fits at *
  rw [← div_step]
  omega
theorem same_len {a b : List Int} (h : ((strOfNums a).toList == (strOfNums b).toList) = true) : a.length = b.length := by
  have := congrArg List.length (str_lists h)
  simpa using this
theorem drawInt_some {l : List Int} {p : Int} (h : At l p) (s : Int) : ∃ v p' s', spec_l7DrawInt.f l p s = some (v, p', s') ∧ (Lit.int .i64 v).wf = true := by
  unfold spec_l7DrawInt.f
  obtain ⟨b, p1, s1, e1, h1⟩ := once_some h s 3 (by omega) (by omega)
  rw [e1]
  simp only [Option.bind_some]
  by_cases c : b = true
  · rw [if_pos c]
    obtain ⟨v, p2, s2, e2, hv, h2⟩ := pick_some h1 s1 [0, 127, 128, (-128), (-129), 255, 256, 32767, 32768, (-32769), 9223372036854775807, (-9223372036854775808)] (by simp) (by simp)
    rw [e2]
    have hvw : (Lit.int .i64 v).wf = true := by
      simp only [List.mem_cons, List.not_mem_nil, or_false] at hv
      clear e2
      rcases hv with e | e | e | e | e | e | e | e | e | e | e | e <;> subst e <;> decide
    exact ⟨_, _, _, rfl, hvw⟩
  · rw [if_neg c]
    obtain ⟨v, p2, s2, e2, _, _, h2⟩ := below_some h1 s1 60000 (by omega) (by omega)
    rw [e2]
    simp only [Option.bind_some]
    obtain ⟨v3, p3, s3, e3, _, _, h3⟩ := below_some h2 s2 60000 (by omega) (by omega)
    rw [e3]
    exact ⟨_, _, _, rfl, wf_of (w64_range _).1 (w64_range _).2⟩
theorem drawIntBytes_ev (l : List Int) (hl : l.length ≤ 1048576) : ∃ n, Ev (fun k => spec_DrawIntBytes.f k l) n ∧ (Lit.int .i64 n).wf = true := by
  obtain ⟨s, h⟩ := new_ev l hl
  obtain ⟨v, p', s', e, hv⟩ := drawInt_some (l := l) (p := 0) ⟨hl, by omega, by omega⟩ s
  exact ⟨v, Ev.bind h (ev_bindc e (Ev.now _)), hv⟩
theorem ints_law (n : Int) (hw : (Lit.int .i64 n).wf = true) : ∃ J, J ≤ 7 ∧ Ev (fun k => impl_IntBytes.f k n) (be n J) ∧ Ev (fun k => impl_ReadIntBytes.f k (be n J)) (n, true) ∧
    ∃ v, Ev (fun k => impl_ReadIntBytes.f k ((wrap64 (255 * (wrap64 (Int.tdiv (wrap64 (rd (be n J) 0)) 128)))) % 256 :: be n J)) (v, false) := by
  obtain ⟨J, hJ, hf, hn⟩ := first_fit n hw
  have hi : Ev (fun k => impl_IntBytes.f k n) (be n J) := impl_go n J hf hJ J 0 (by omega) (fun i _ b => hn i b)
  refine ⟨J, hJ, hi, ?_, ?_⟩
  · have := read_be n J J hw hi hJ hf
    rw [if_pos (by simp)] at this
    exact this
  · have h0 : rd (be n J) 0 = n / 256 ^ J % 256 := by
      have := rd_nat (be n J) 0
      rw [List.getD_eq_getElem?_getD, be_get n J 0 (by omega)] at this
      exact this
    have hb : wrap64 (255 * (wrap64 (Int.tdiv (wrap64 (rd (be n J) 0)) 128))) % 256 = n / 256 ^ (J + 1) % 256 := by
      rw [h0, ← div_step]
      unfold fits at hf
      generalize n / 256 ^ J = q at hf ⊢
      rw [w64 (x := q % 256) (by omega) (by omega), Int.tdiv_eq_ediv_of_nonneg (by omega), w64 (x := q % 256 / 128) (by omega) (by omega), w64 (by omega) (by omega)]
      rcases (show q / 256 = 0 ∧ q % 256 / 128 = 0 ∨ q / 256 = -1 ∧ q % 256 / 128 = 1 by omega) with ⟨e1, e2⟩ | ⟨e1, e2⟩
      · rw [e1, e2]; rfl
      · rw [e1, e2]; rfl
    rw [hb, show (n / 256 ^ (J + 1) % 256 :: be n J) = be n (J + 1) from rfl]
    by_cases c : J = 7
    · refine ⟨0, ev_bindc (within_eq _ _ _) (ev_neg ?_ (Ev.now _))⟩
      rw [be_length, c]
      decide
    · have := read_be n J (J + 1) hw hi (by omega) (fits_up n J hf)
      rw [if_neg (fun e => by have := same_len e; rw [be_length, be_length] at this; omega)] at this
      exact ⟨0, this⟩
theorem drawOid_some {l : List Int} {p : Int} (h : At l p) (s : Int) : ∃ xs p' s', Ev (fun k => spec_l7DrawOid.f k l p s) (xs, p', s') ∧ At l p' ∧ xs.length ≤ 100 := by
  have l0 : ∀ (d : Nat) (xs : List Int) (p s : Int), At l p → 2 ≤ xs.length → xs.length + d ≤ 90 → ∃ ys p' s', Ev (fun k => spec_l7DrawOid.l0 k xs (d : Int) l p s) (ys, p', s') ∧ At l p' ∧ ys.length ≤ 100 := by
    intro d
    induction d with
    | zero =>
      intro xs p s h h2 h9
      obtain ⟨c, p1, s1, e1, _, _, h1⟩ := below_some h s 25 (by omega) (by omega)
      by_cases c0 : c = 0
      · obtain ⟨v, p2, s2, e2, _, h2'⟩ := pick_some h1 s1 [(-1), 1000000001] (by simp) (by simp)
        exact ⟨_, _, _, Ev.step (fun k => spec_l7DrawOid.l0.eq_2 _ _ _ _ _ _) (ev_neg (by omega) (ev_bindc e1 (ev_pos c0 (ev_bindc e2 (ev_pos (by omega) (Ev.now _)))))), h2', by simp; omega⟩
      by_cases c1 : c = 1
      · obtain ⟨v, p2, s2, e2, _, h2'⟩ := pick_some h1 s1 [3, (-1)] (by simp) (by simp)
        exact ⟨_, _, _, Ev.step (fun k => spec_l7DrawOid.l0.eq_2 _ _ _ _ _ _) (ev_neg (by omega) (ev_bindc e1 (ev_neg c0 (ev_pos c1 (ev_bindc e2 (ev_pos (by omega) (Ev.now _))))))), h2', by simp; omega⟩
      by_cases c2 : c = 2
      · exact ⟨_, _, _, Ev.step (fun k => spec_l7DrawOid.l0.eq_2 _ _ _ _ _ _) (ev_neg (by omega) (ev_bindc e1 (ev_neg c0 (ev_neg c1 (ev_pos c2 (ev_pos (by omega) (Ev.now _))))))), h1, by simp; omega⟩
      by_cases c3 : c = 3
      · obtain ⟨v, p2, s2, e2, r0, r1, h2'⟩ := below_some h1 s1 2 (by omega) (by omega)
        have hw : wrap64 (12 + v) = 12 + v := w64 (by omega) (by omega)
        refine ⟨List.replicate (12 + v).toNat 0, p2, s2, Ev.step (fun k => spec_l7DrawOid.l0.eq_2 _ _ _ _ _ _) (ev_neg (by omega) (ev_bindc e1 (ev_neg c0 (ev_neg c1 (ev_neg c2 (ev_pos c3 (ev_bindc e2 ?_))))))), h2', ?_⟩
        · simp only [hw]
          clear hw
          exact ev_pos (by omega) (ev_pos (by omega) (Ev.now _))
        · clear hw
          rw [List.length_replicate]
          omega
      by_cases c4 : c = 4
      · obtain ⟨v, p2, s2, e2, _, h2'⟩ := pick_some h1 s1 [39, 40, (-1)] (by simp) (by simp)
        exact ⟨_, _, _, Ev.step (fun k => spec_l7DrawOid.l0.eq_2 _ _ _ _ _ _) (ev_neg (by omega) (ev_bindc e1 (ev_neg c0 (ev_neg c1 (ev_neg c2 (ev_neg c3 (ev_pos c4 (ev_bindc e2 (ev_pos (by omega) (Ev.now _)))))))))), h2', by simp; omega⟩
      · exact ⟨_, _, _, Ev.step (fun k => spec_l7DrawOid.l0.eq_2 _ _ _ _ _ _) (ev_neg (by omega) (ev_bindc e1 (ev_neg c0 (ev_neg c1 (ev_neg c2 (ev_neg c3 (ev_neg c4 (Ev.now _)))))))), h1, by omega⟩
    | succ d ih =>
      intro xs p s h h2 h9
      obtain ⟨v, p2, s2, e2, _, h2'⟩ := pick_some h s [0, 1, 127, 128, 840, 113549, 16383, 16384, 1000000000] (by simp) (by simp)
      obtain ⟨ys, p3, s3, e3, h3, l3⟩ := ih (xs ++ [v]) p2 s2 h2' (by simp; omega) (by simp; omega)
      refine ⟨ys, p3, s3, Ev.step (fun k => spec_l7DrawOid.l0.eq_2 _ _ _ _ _ _) (ev_pos (by omega) (ev_bindc e2 (ev_pos (by omega) ?_))), h3, l3⟩
      rw [show wrap64 (((d + 1 : Nat) : Int) - 1) = (d : Int) by rw [w64 (by omega) (by omega)]; omega]
      exact e3
  have j1 : ∀ (xs : List Int) (p s : Int), At l p → xs.length = 2 → ∃ ys p' s', Ev (fun k => spec_l7DrawOid.j1 k xs l p s) (ys, p', s') ∧ At l p' ∧ ys.length ≤ 100 := by
    intro xs p s h h2
    obtain ⟨c, p1, s1, e1, r0, r1, h1⟩ := below_some h s 6 (by omega) (by omega)
    obtain ⟨ys, p3, s3, e3, h3, l3⟩ := l0 c.toNat xs p1 s1 h1 (by omega) (by omega)
    rw [Int.toNat_of_nonneg r0] at e3
    exact ⟨ys, p3, s3, Ev.step (fun k => spec_l7DrawOid.j1.eq_2 _ _ _ _ _) (ev_bindc e1 e3), h3, l3⟩
  have j0 : ∀ (b : Bool) (xs : List Int) (p s : Int), At l p → xs.length = 2 → ∃ ys p' s', Ev (fun k => spec_l7DrawOid.j0 k xs b l p s) (ys, p', s') ∧ At l p' ∧ ys.length ≤ 100 := by
    intro b xs p s h h2
    by_cases c : b = true
    · obtain ⟨v, p2, s2, e2, _, h2'⟩ := pick_some h s [40, 999, 1000000, 1000001, 47, 48] (by simp) (by simp)
      obtain ⟨ys, p3, s3, e3, h3, l3⟩ := j1 (xs.set (1 : Int).toNat v) p2 s2 h2' (by simpa using h2)
      exact ⟨ys, p3, s3, Ev.step (fun k => spec_l7DrawOid.j0.eq_2 _ _ _ _ _ _) (ev_pos c (ev_bindc e2 (ev_pos (by omega) e3))), h3, l3⟩
    · obtain ⟨ys, p3, s3, e3, h3, l3⟩ := j1 xs p s h h2
      exact ⟨ys, p3, s3, Ev.step (fun k => spec_l7DrawOid.j0.eq_2 _ _ _ _ _ _) (ev_neg c e3), h3, l3⟩
  obtain ⟨a, p1, s1, e1, _, _, h1⟩ := below_some h s 3 (by omega) (by omega)
  obtain ⟨b, p2, s2, e2, _, _, h2⟩ := below_some h1 s1 40 (by omega) (by omega)
  by_cases c : rd [a, b] 0 = 2
  · obtain ⟨v, p3, s3, e3, h3⟩ := once_some h2 s2 3 (by omega) (by omega)
    obtain ⟨ys, p4, s4, e4, h4, l4⟩ := j0 v [a, b] p3 s3 h3 rfl
    exact ⟨ys, p4, s4, ev_bindc e1 (ev_bindc e2 (Ev.bind (Ev.now _) (ev_pos (by simp) (ev_pos c (ev_bindc e3 e4))))), h4, l4⟩
  · obtain ⟨ys, p4, s4, e4, h4, l4⟩ := j0 false [a, b] p2 s2 h2 rfl
    exact ⟨ys, p4, s4, ev_bindc e1 (ev_bindc e2 (Ev.bind (Ev.now _) (ev_pos (by simp) (ev_neg c e4)))), h4, l4⟩
theorem sameInts_ev (l : List Int) (hl : l.length ≤ 1048577) : Ev (fun k => laws_sameInts.f k l l) true :=
  ev_pos rfl (by simpa using eq_ev (L := laws_sameInts.l0) (fun _ _ _ _ => rfl) l l (by omega) rfl)
theorem oidRes (l : List Int) : (∀ x ∈ (if oidB l = true then (oidL l, true) else (([] : List Int), false)).1, 0 ≤ x ∧ x ≤ 255) ∧ (if oidB l = true then (oidL l, true) else (([] : List Int), false)).1.length ≤ 1000 := by
  cases c : oidB l with
  | false => exact ⟨fun x hx => by simp at hx, by simp⟩
  | true =>
    rw [if_pos rfl]
    refine ⟨oidL_range l, ?_⟩
    obtain ⟨p, _⟩ := oidB_parts c
    have h2 := sev_length (40 * rd l 0 + rd l 1)
    have h3 := flat_length (l.drop 2)
    simp only [oidL, List.length_append]
    rw [List.length_drop] at h3
    omega
theorem drawReadOid_ev (l : List Int) (hl : l.length ≤ 1048576) : ∃ raw, Ev (fun k => spec_DrawReadOid.f k l) raw ∧ raw.length ≤ 1048576 ∧ ∀ x ∈ raw, 0 ≤ x ∧ x ≤ 255 := by
  obtain ⟨s, h⟩ := new_ev l hl
  obtain ⟨xs, p1, s1, e1, h1, l1⟩ := drawOid_some (l := l) (p := 0) ⟨hl, by omega, by omega⟩ s
  have hs := spec_oid xs (by omega)
  obtain ⟨hr, hlen⟩ := oidRes xs
  generalize (if oidB xs = true then (oidL xs, true) else (([] : List Int), false)) = R at hs hr hlen
  obtain ⟨r, b⟩ := R
  replace hr : ∀ x ∈ r, 0 ≤ x ∧ x ≤ 255 := hr
  replace hlen : r.length ≤ 1000 := hlen
  have key : ∃ raw, Ev (fun k => (if (r.length : Int) = 0 then (some r) else ((spec_l1Below.f l p1 s1 6).bind fun bt361 => (if bt361.1 = 0 then ((spec_l1Below.f l bt361.2.1 bt361.2.2 (r.length : Int)).bind fun bt364 => ((spec_l1Byte.f l bt364.2.1 bt364.2.2).bind fun bt367 => (if 0 ≤ bt364.1 then (if bt364.1 < (r.length : Int) then (some (r.set (bt364.1 : Int).toNat ((bt367.1) % 256))) else (none)) else (none)))) else (if bt361.1 = 1 then ((some (([128, 1] : List Int) : List Int)).bind fun y371 => (if r.length + y371.length < 140737488355328 then (some (r ++ y371)) else (none))) else (if bt361.1 = 2 then ((spec_l1Below.f l bt361.2.1 bt361.2.2 128).bind fun bt377 => (if r.length < 140737488355328 then (some (r ++ [(wrap64 (128 + bt377.1)) % 256])) else (none))) else (some r))))))) raw ∧ raw.length ≤ 1048576 ∧ ∀ x ∈ raw, 0 ≤ x ∧ x ≤ 255 := by
    by_cases c : (r.length : Int) = 0
    · exact ⟨r, ev_pos c (Ev.now _), by omega, hr⟩
    · obtain ⟨v, p2, s2, e2, _, _, h2⟩ := below_some h1 s1 6 (by omega) (by omega)
      by_cases c0 : v = 0
      · obtain ⟨i, p3, s3, e3, r0, r1, h3⟩ := below_some h2 s2 (r.length : Int) (by omega) (by omega)
        obtain ⟨b, p4, s4, e4, _, _, h4⟩ := byte_some h3 s3
        refine ⟨_, ev_neg c (ev_bindc e2 (ev_pos c0 (ev_bindc e3 (ev_bindc e4 (ev_pos r0 (ev_pos r1 (Ev.now _))))))), by rw [List.length_set]; omega, fun x hx => ?_⟩
        rcases List.mem_or_eq_of_mem_set hx with h | h
        · exact hr x h
        · rw [h]
          dsimp only
          omega
      by_cases c1 : v = 1
      · refine ⟨_, ev_neg c (ev_bindc e2 (ev_neg c0 (ev_pos c1 (Ev.bind (Ev.now _) (ev_pos (by simp; omega) (Ev.now _)))))), by simp; omega, fun x hx => ?_⟩
        rcases List.mem_append.1 hx with h | h
        · exact hr x h
        · simp at h
          omega
      by_cases c2 : v = 2
      · obtain ⟨i, p3, s3, e3, r0, r1, h3⟩ := below_some h2 s2 128 (by omega) (by omega)
        refine ⟨_, ev_neg c (ev_bindc e2 (ev_neg c0 (ev_neg c1 (ev_pos c2 (ev_bindc e3 (ev_pos (by omega) (Ev.now _))))))), by simp; omega, fun x hx => ?_⟩
        rcases List.mem_append.1 hx with h | h
        · exact hr x h
        · rw [List.mem_singleton.1 h]
          omega
      · exact ⟨_, ev_neg c (ev_bindc e2 (ev_neg c0 (ev_neg c1 (ev_neg c2 (Ev.now _))))), by omega, hr⟩
  obtain ⟨raw, k1, k2, k3⟩ := key
  exact ⟨raw, Ev.bind h (Ev.bind e1 (Ev.bind hs k1)), k2, k3⟩
theorem FnNumbers7 : laws_FnNumbers7.Pure := by
  intro l _ _ _
  by_cases c0 : (l.length : Int) > 1048576
  · exact ev_k (ev_bindc (show laws_big.f l = some true by unfold laws_big.f; rw [decide_eq_true c0]) (ev_pos rfl (Ev.now _)))
  have hl : l.length ≤ 1048576 := by omega
  obtain ⟨n, hn, hw⟩ := drawIntBytes_ev l hl
  obtain ⟨J, hJ, i1, i2, v, i3⟩ := ints_law n hw
  obtain ⟨s, h⟩ := new_ev l hl
  obtain ⟨xs, p1, s1, e1, h1, l1⟩ := drawOid_some (l := l) (p := 0) ⟨hl, by omega, by omega⟩ s
  have hx : Ev (fun k => spec_DrawOidBytes.f k l) xs := Ev.bind h (Ev.bind e1 (Ev.now _))
  have oi := impl_oid xs (by omega)
  have os := spec_oid xs (by omega)
  obtain ⟨raw, r1, r2, r3⟩ := drawReadOid_ev l hl
  have fin1 : Ev (fun k => laws_FnNumbers7.j1 k l false) true := by
    refine Ev.step (fun k => laws_FnNumbers7.j1.eq_2 _ _ _) (ev_neg (by simp) (Ev.bind r1 ?_))
    rcases readOid_says raw r3 r2 with hq | ⟨q, hq, q1, q2, q3⟩
    · exact Ev.bind hq (ev_neg (by simp) (Ev.now _))
    · have oq := impl_oid q (by omega)
      rw [if_pos q1] at oq
      refine Ev.bind hq (ev_pos rfl (Ev.bind oq (ev_pos rfl ?_)))
      rw [q2]
      exact Ev.now _
  refine ev_k (ev_bindc (show laws_big.f l = some false by unfold laws_big.f; rw [decide_eq_false c0]) (ev_neg (by simp) (Ev.bind hn (Ev.bind i1 (Ev.bind i2 (ev_pos rfl (ev_pos rfl (ev_neg (by rw [be_length]; omega) ?_))))))))
  rw [show (((be n J).length : Int) == 0) = false by rw [be_length]; simp; omega]
  refine Ev.step (fun k => laws_FnNumbers7.j0.eq_2 _ _ _ _) (ev_neg (by simp) (ev_pos (by rw [be_length]; omega) (Ev.bind (Ev.now _) (ev_pos (by rw [be_length]; simp; omega) (Ev.bind i3 (ev_neg (by simp) (Ev.bind hx (Ev.bind oi (Ev.bind os ?_)))))))))
  cases c : oidB xs with
  | true =>
    rw [if_pos rfl]
    exact Ev.bind (oid_back xs c) (ev_neg (by simp) (ev_pos rfl (ev_pos rfl (Ev.bind (sameInts_ev xs (by omega)) fin1))))
  | false =>
    rw [if_neg (by simp)]
    rcases readOid_says [] (fun x hx => by cases hx) (by simp) with hq | ⟨q, hq, _⟩
    · exact Ev.bind hq (ev_neg (by simp) (ev_neg (by simp) fin1))
    · exact Ev.bind hq (ev_neg (by simp) (ev_neg (by simp) fin1))

end Go.Proofs.Ythhomopijhopfaa.Pure
