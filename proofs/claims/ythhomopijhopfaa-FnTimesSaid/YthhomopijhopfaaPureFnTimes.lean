/- A drawn time comes back from its day and its texts, and texts of one form stand in the order of their times. -/
import Derived.Test.YthhomopijhopfaaGFnTimesx5
import Derived.Test.YthhomopijhopfaaBase
namespace Go.Proofs.Ythhomopijhopfaa.Pure
open Go.RowKit Go.Proofs.Ythhomopijhopfaa.GFnTimes Go.Proofs.YthhomopijhopfaaW.PrintWords Go.Proofs.YthhomopijhopfaaW.PrintLast Go.Proofs.Ythhomopijhopfaa.Base
set_option linter.unusedVariables false
set_option linter.unusedSimpArgs false

/-! ### draws: what the laws' generators give -/
theorem and255 (x : Int) : 0 ≤ Go.bits .and .i64 x 255 ∧ Go.bits .and .i64 x 255 ≤ 255 := by
  have h : (BitVec.ofInt 64 x &&& BitVec.ofInt 64 255).toNat ≤ 255 := by
    rw [BitVec.toNat_and]
    exact Nat.le_trans Nat.and_le_right (by decide)
  have e : Go.bits .and .i64 x 255 = IntKind.i64.wrap ((BitVec.ofInt 64 x &&& BitVec.ofInt 64 255).toNat : Int) := rfl
  rw [e]
  generalize (BitVec.ofInt 64 x &&& BitVec.ofInt 64 255).toNat = m at h
  rw [wrap_i64_id 62 (by decide) _ (by omega) (by omega)]
  omega
theorem new_ev (l : List Int) (hl : l.length ≤ 1048576) : ∃ s, Ev (fun k => spec_l1New.f k l) (l, 0, s) := by
  have H : ∀ (d i : Nat) (s : Int), i + d = 4000 → ∃ s', Ev (fun k => spec_l1New.l0 k l s (i : Int)) (l, 0, s') := by
    intro d
    induction d with
    | zero =>
      intro i s hi
      by_cases c : (i : Int) < (l.length : Int)
      · exact ⟨s, Ev.step (fun k => spec_l1New.l0.eq_2 _ _ _ _) (ev_pos c (ev_neg (by omega) (Ev.now _)))⟩
      · exact ⟨s, Ev.step (fun k => spec_l1New.l0.eq_2 _ _ _ _) (ev_neg c (Ev.now _))⟩
    | succ d ih =>
      intro i s hi
      by_cases c : (i : Int) < (l.length : Int)
      · obtain ⟨s', h⟩ := ih (i + 1) (Go.bits .and .i64 (wrap64 ((wrap64 ((wrap64 (s * 131)) + (wrap64 (rd l (i : Int))))) + 7)) 1073741823) (by omega)
        refine ⟨s', Ev.step (fun k => spec_l1New.l0.eq_2 _ _ _ _) (ev_pos c (ev_pos (by omega) (ev_pos (by omega) ?_)))⟩
        rw [w64 (x := (i : Int) + 1) (by omega) (by omega)]
        exact h
      · exact ⟨s, Ev.step (fun k => spec_l1New.l0.eq_2 _ _ _ _) (ev_neg c (Ev.now _))⟩
  exact H 4000 0 _ rfl
/-- the place in the bytes that are drawn from -/
structure At (l : List Int) (p : Int) : Prop where
  big : l.length ≤ 1048576
  lo : 0 ≤ p
  hi : p ≤ 1048576
theorem byte_some {l : List Int} {p : Int} (h : At l p) (s : Int) : ∃ b p' s', spec_l1Byte.f l p s = some (b, p', s') ∧ 0 ≤ b ∧ b ≤ 255 ∧ At l p' := by
  unfold spec_l1Byte.f
  have hb := h.big
  have h0 := h.lo
  have h1 := h.hi
  by_cases c : p < (l.length : Int)
  · rw [if_pos c, if_pos h0, w64 (x := p + 1) (by omega) (by omega)]
    exact ⟨_, _, _, rfl, (and255 _).1, (and255 _).2, ⟨hb, by omega, by omega⟩⟩
  · rw [if_neg c]
    exact ⟨_, _, _, rfl, (and255 _).1, (and255 _).2, h⟩
theorem below_some {l : List Int} {p : Int} (h : At l p) (s : Int) (a : Int) (h0 : 0 < a) (h1 : a ≤ 4294967296) : ∃ v p' s', spec_l1Below.f l p s a = some (v, p', s') ∧ 0 ≤ v ∧ v < a ∧ At l p' := by
  unfold spec_l1Below.f
  rw [if_neg (by omega)]
  by_cases c : a ≤ 256
  · rw [if_pos c]
    obtain ⟨b, p', s', e, r0, r1, h'⟩ := byte_some h s
    rw [e]
    simp only [Option.bind_some]
    rw [if_neg (by omega), Int.tmod_eq_emod_of_nonneg r0]
    exact ⟨_, _, _, rfl, Int.emod_nonneg _ (by omega), Int.emod_lt_of_pos _ h0, h'⟩
  · rw [if_neg c]
    obtain ⟨b1, p1, s1, e1, r1, q1, h1'⟩ := byte_some h s
    rw [e1]
    simp only [Option.bind_some]
    obtain ⟨b2, p2, s2, e2, r2, q2, h2'⟩ := byte_some h1' s1
    rw [e2]
    simp only [Option.bind_some]
    obtain ⟨b3, p3, s3, e3, r3, q3, h3'⟩ := byte_some h2' s2
    rw [e3]
    simp only [Option.bind_some]
    obtain ⟨b4, p4, s4, e4, r4, q4, h4'⟩ := byte_some h3' s3
    rw [e4]
    simp only [Option.bind_some]
    rw [if_neg (by omega), w64 (x := b1 * 16777216) (by omega) (by omega), w64 (x := b2 * 65536) (by omega) (by omega), w64 (x := b1 * 16777216 + b2 * 65536) (by omega) (by omega), w64 (x := b3 * 256) (by omega) (by omega),
      w64 (x := b1 * 16777216 + b2 * 65536 + b3 * 256) (by omega) (by omega), w64 (x := b1 * 16777216 + b2 * 65536 + b3 * 256 + b4) (by omega) (by omega), Int.tmod_eq_emod_of_nonneg (by omega)]
    exact ⟨_, _, _, rfl, Int.emod_nonneg _ (by omega), Int.emod_lt_of_pos _ h0, h4'⟩
theorem once_some {l : List Int} {p : Int} (h : At l p) (s : Int) (a : Int) (h0 : 0 < a) (h1 : a ≤ 4294967296) : ∃ v p' s', spec_l1Once.f l p s a = some (v, p', s') ∧ At l p' := by
  unfold spec_l1Once.f
  obtain ⟨v, p', s', e, _, _, h'⟩ := below_some h s a h0 h1
  rw [e]
  exact ⟨_, _, _, rfl, h'⟩
theorem pick_some {l : List Int} {p : Int} (h : At l p) (s : Int) (xs : List Int) (h0 : 0 < xs.length) (h1 : xs.length ≤ 1048576) : ∃ v p' s', spec_l1PickInt.f l p s xs = some (v, p', s') ∧ v ∈ xs ∧ At l p' := by
  unfold spec_l1PickInt.f
  obtain ⟨v, p', s', e, r0, r1, h'⟩ := below_some h s (xs.length : Int) (by omega) (by omega)
  rw [e]
  simp only [Option.bind_some]
  rw [if_pos r0, if_pos r1]
  exact ⟨_, _, _, rfl, rd_mem r0 r1, h'⟩
/-! ### days of months and years -/
def lpy (y : Int) : Int := if y % 4 = 0 then 1 else 0
theorem lpy_01 (y : Int) : 0 ≤ lpy y ∧ lpy y ≤ 1 := by unfold lpy; split <;> omega
def dim (y m : Int) : Int := if m = 2 then 28 + lpy y else if m = 4 ∨ m = 6 ∨ m = 9 ∨ m = 11 then 30 else 31
theorem dim_range (y m : Int) : 28 ≤ dim y m ∧ dim y m ≤ 31 := by
  have := lpy_01 y
  unfold dim; split
  · omega
  · split <;> omega
/-- the days of a year ahead of a month -/
def cum (y m : Int) : Int :=
  if m ≤ 1 then 0 else if m = 2 then 31 else lpy y + (if m = 3 then 59 else if m = 4 then 90 else if m = 5 then 120 else if m = 6 then 151 else if m = 7 then 181
    else if m = 8 then 212 else if m = 9 then 243 else if m = 10 then 273 else if m = 11 then 304 else if m = 12 then 334 else 365)
/-- the days from 1950 on to a year -/
def yrs (y : Int) : Int := 365 * (y - 1950) + ((y + 3) / 4 - 488)
theorem months {m : Int} (h0 : 1 ≤ m) (h1 : m ≤ 12) : m = 1 ∨ m = 2 ∨ m = 3 ∨ m = 4 ∨ m = 5 ∨ m = 6 ∨ m = 7 ∨ m = 8 ∨ m = 9 ∨ m = 10 ∨ m = 11 ∨ m = 12 := by omega
theorem cum_succ (y m : Int) (h0 : 1 ≤ m) (h1 : m ≤ 12) : cum y (m + 1) = cum y m + dim y m := by
  rcases months h0 h1 with rfl | rfl | rfl | rfl | rfl | rfl | rfl | rfl | rfl | rfl | rfl | rfl <;> simp [cum, dim] <;> omega
theorem cum_13 (y : Int) : cum y 13 = 365 + lpy y := by simp [cum]; omega
theorem cum_range (y m : Int) : 0 ≤ cum y m ∧ cum y m ≤ 366 := by
  have := lpy_01 y
  unfold cum; (repeat' split) <;> omega
theorem yrs_succ (y : Int) : yrs (y + 1) = yrs y + 365 + lpy y := by unfold yrs lpy; split <;> omega
theorem yrs_1950 : yrs 1950 = 0 := by decide
theorem daysIn_ev (y m : Int) (hy : 0 ≤ y) (h0 : 1 ≤ m) (h1 : m ≤ 12) : Ev (fun k => impl_daysIn.f k y m) (dim y m) := by
  refine ⟨1, fun k hk => ?_⟩
  obtain ⟨k, rfl⟩ : ∃ n, k = n + 1 := ⟨k - 1, by omega⟩
  rcases months h0 h1 with rfl | rfl | rfl | rfl | rfl | rfl | rfl | rfl | rfl | rfl | rfl | rfl <;> simp [impl_daysIn.f, impl_daysIn.j0, dim]
  rw [Int.tmod_eq_emod_of_nonneg hy]
  unfold lpy; split <;> simp
theorem daysOf_ev (y : Int) (hy : 0 ≤ y) : Ev (fun k => impl_daysOf.f k y) (365 + lpy y) := by
  have h := daysIn_ev y 2 hy (by omega) (by omega)
  refine Ev.bind h ?_
  have := lpy_01 y
  rw [show wrap64 (337 + dim y 2) = 365 + lpy y by unfold wrap64; simp [dim]; omega]
  exact Ev.now _
theorem within_eq (x a b : Int) : impl_within.f x a b = some (decide (a ≤ x ∧ x ≤ b)) := by
  unfold impl_within.f
  by_cases h : x ≥ a
  · rw [if_pos h]; simp [show a ≤ x from h]
  · rw [if_neg h]; simp [show ¬ a ≤ x from h]
def inTime (t : Int) : Prop := -631152000 ≤ t ∧ t ≤ 4102444799
theorem months_impl (y s : Int) (hy : 0 ≤ y) : ∀ (n : Nat) (i x : Int), 1 ≤ i → i + n = 12 → 0 ≤ x → cum y i + x < 365 + lpy y →
    ∃ m d, (1 ≤ m ∧ m ≤ 12) ∧ (1 ≤ d ∧ d ≤ dim y m) ∧ cum y m + d - 1 = cum y i + x ∧ Ev (fun k => impl_DayOf.l1 k x s y i) (y, m, d, s) := by
  have hl := lpy_01 y
  intro n
  induction n with
  | zero =>
    intro i x hi hn hx hlt
    obtain rfl : i = 12 := by omega
    have h13 : cum y 12 + dim y 12 = 365 + lpy y := by rw [← cum_succ y 12 (by omega) (by omega)]; exact cum_13 y
    have hc : ¬ x ≥ dim y 12 := by omega
    have hr := cum_range y 12
    have e : wrap64 (x + 1) = x + 1 := w64 (by omega) (by omega)
    refine ⟨12, x + 1, by omega, by omega, by omega, ?_⟩
    refine Ev.step (fun k => impl_DayOf.l1.eq_2 _ _ _ _ _) (Ev.bind (daysIn_ev y 12 hy (by omega) (by omega)) (ev_neg hc ?_))
    rw [e]; exact Ev.now _
  | succ n ih =>
    intro i x hi hn hx hlt
    have hs := cum_succ y i hi (by omega)
    have hr := cum_range y i
    have hdr := dim_range y i
    by_cases hc : x ≥ dim y i
    · obtain ⟨m, d, h1, h2, h3, h5⟩ := ih (i + 1) (x - dim y i) (by omega) (by omega) (by omega) (by omega)
      refine ⟨m, d, h1, h2, by omega, ?_⟩
      refine Ev.step (fun k => impl_DayOf.l1.eq_2 _ _ _ _ _) (Ev.bind (daysIn_ev y i hy (by omega) (by omega)) (ev_pos hc (Ev.bind (daysIn_ev y i hy (by omega) (by omega)) ?_)))
      rw [w64 (by omega) (by omega), w64 (by omega) (by omega)]; exact h5
    · have e : wrap64 (x + 1) = x + 1 := w64 (by omega) (by omega)
      refine ⟨i, x + 1, by omega, by omega, by omega, ?_⟩
      refine Ev.step (fun k => impl_DayOf.l1.eq_2 _ _ _ _ _) (Ev.bind (daysIn_ev y i hy (by omega) (by omega)) (ev_neg hc ?_))
      rw [e]; exact Ev.now _
theorem years_impl (s : Int) : ∀ (n : Nat) (i x : Int), 1950 ≤ i → i + n = 2099 → 0 ≤ x → yrs i + x < yrs 2100 →
    ∃ y m d, (1950 ≤ y ∧ y ≤ 2099) ∧ (1 ≤ m ∧ m ≤ 12) ∧ (1 ≤ d ∧ d ≤ dim y m) ∧ yrs y + cum y m + d - 1 = yrs i + x ∧ Ev (fun k => impl_DayOf.l0 k x s i 1) (y, m, d, s) := by
  have stay : ∀ i x : Int, 1950 ≤ i → i ≤ 2099 → 0 ≤ x → ¬ x ≥ 365 + lpy i → ∃ y m d, (1950 ≤ y ∧ y ≤ 2099) ∧ (1 ≤ m ∧ m ≤ 12) ∧ (1 ≤ d ∧ d ≤ dim y m) ∧ yrs y + cum y m + d - 1 = yrs i + x ∧ Ev (fun k => impl_DayOf.l0 k x s i 1) (y, m, d, s) := by
    intro i x h0 h1 hx hc
    have c1 : cum i 1 = 0 := by simp [cum]
    obtain ⟨m, d, g1, g2, g3, g5⟩ := months_impl i s (by omega) 11 1 x (by omega) (by omega) hx (by omega)
    exact ⟨i, m, d, ⟨h0, h1⟩, g1, g2, by omega,
      Ev.step (fun k => impl_DayOf.l0.eq_2 _ _ _ _ _) (Ev.bind (daysOf_ev i (by omega)) (ev_neg hc g5))⟩
  intro n
  induction n with
  | zero =>
    intro i x hi hn hx hlt
    obtain rfl : i = 2099 := by omega
    have := yrs_succ 2099
    have e21 : yrs (2099 + 1) = yrs 2100 := rfl
    exact stay 2099 x (by omega) (by omega) hx (by omega)
  | succ n ih =>
    intro i x hi hn hx hlt
    have hys := yrs_succ i
    have hl := lpy_01 i
    have hyr : 0 ≤ yrs i ∧ yrs 2100 ≤ 60000 := by unfold yrs; omega
    by_cases hc : x ≥ 365 + lpy i
    · obtain ⟨y, m, d, h1, h2, h3, h4, h6⟩ := ih (i + 1) (x - (365 + lpy i)) (by omega) (by omega) (by omega) (by omega)
      refine ⟨y, m, d, h1, h2, h3, by omega, ?_⟩
      refine Ev.step (fun k => impl_DayOf.l0.eq_2 _ _ _ _ _) (Ev.bind (daysOf_ev i (by omega)) (ev_pos hc (Ev.bind (daysOf_ev i (by omega)) ?_)))
      rw [w64 (by omega) (by omega), w64 (by omega) (by omega)]; exact h6
    · exact stay i x hi (by omega) hx hc
theorem isTime_eq (t : Int) : impl_isTime.f t = some (decide (-631152000 ≤ t ∧ t ≤ 4102444799)) := by unfold impl_isTime.f; rw [within_eq]; rfl
theorem dayOf_impl (t : Int) (h : inTime t) : ∃ y m d s, (1950 ≤ y ∧ y ≤ 2099) ∧ (1 ≤ m ∧ m ≤ 12) ∧ (1 ≤ d ∧ d ≤ dim y m) ∧ (0 ≤ s ∧ s ≤ 86399) ∧ t = -631152000 + (yrs y + cum y m + d - 1) * 86400 + s ∧
    Ev (fun k => impl_DayOf.f k t) (y, m, d, s) := by
  unfold inTime at h
  have e1 : wrap64 (t - -631152000) = t + 631152000 := by rw [w64 (by omega) (by omega)]; omega
  have e2 : Int.tdiv (t + 631152000) 86400 = (t + 631152000) / 86400 := Int.tdiv_eq_ediv_of_nonneg (by omega)
  have e3 : Int.tmod (t + 631152000) 86400 = (t + 631152000) % 86400 := Int.tmod_eq_emod_of_nonneg (by omega)
  have e4 : wrap64 ((t + 631152000) / 86400) = (t + 631152000) / 86400 := w64 (by omega) (by omega)
  have y21 : yrs 2100 = 54787 := by decide
  obtain ⟨y, m, d, h1, h2, h3, h4, h6⟩ := years_impl ((t + 631152000) % 86400) 149 1950 ((t + 631152000) / 86400) (by omega) (by omega) (by omega) (by rw [yrs_1950]; omega)
  rw [yrs_1950] at h4
  refine ⟨y, m, d, (t + 631152000) % 86400, h1, h2, h3, by omega, by omega, ?_⟩
  refine ev_bindc (isTime_eq t) (ev_pos (by simp [h]) ?_)
  rw [e1, e2, e3, e4]; exact h6
theorem impl_dayNo (t : Int) (h : ¬ inTime t) : Ev (fun k => impl_DayOf.f k t) (0, 0, 0, 0) :=
  ev_bindc (isTime_eq t) (ev_neg (by rw [decide_eq_false (show ¬ (-631152000 ≤ t ∧ t ≤ 4102444799) from h)]; simp) (Ev.now _))
/-! ### TimeOf -/
def timeOk (y m d s : Int) : Prop := (1950 ≤ y ∧ y ≤ 2099) ∧ (1 ≤ m ∧ m ≤ 12) ∧ (1 ≤ d ∧ d ≤ dim y m) ∧ (0 ≤ s ∧ s ≤ 86399)
def timeAt (y m d s : Int) : Int := -631152000 + (yrs y + cum y m + d - 1) * 86400 + s
theorem impl_months (y m d s : Int) (h : timeOk y m d s) (b : Int) (hb0 : -100000 ≤ b) (hb1 : b ≤ 100000) : ∀ (n : Nat) (i : Int), 1 ≤ i → i + n = m → Ev (fun k => impl_TimeOf.l1 k y m s (b + cum y i) i) (-631152000 + (b + cum y m) * 86400 + s, true) := by
  obtain ⟨⟨hy0, hy1⟩, ⟨hm0, hm1⟩, ⟨hd0, hd1⟩, hs0, hs1⟩ := h
  intro n
  induction n with
  | zero =>
    intro i hi hn
    obtain rfl : i = m := by omega
    have := cum_range y i
    refine Ev.step (fun k => impl_TimeOf.l1.eq_2 _ _ _ _ _ _) (ev_neg (by omega) ?_)
    rw [show wrap64 (wrap64 (-631152000 + wrap64 ((b + cum y i) * 86400)) + s) = -631152000 + (b + cum y i) * 86400 + s by unfold wrap64; omega]
    exact Ev.now _
  | succ n ih =>
    intro i hi hn
    have := cum_range y i
    have := dim_range y i
    refine Ev.step (fun k => impl_TimeOf.l1.eq_2 _ _ _ _ _ _) (ev_pos (by omega) (Ev.bind (daysIn_ev y i (by omega) hi (by omega)) ?_))
    rw [w64 (by omega) (by omega), w64 (by omega) (by omega), show b + cum y i + dim y i = b + cum y (i + 1) by rw [cum_succ y i hi (by omega)]; omega]
    exact ih (i + 1) (by omega) (by omega)
theorem impl_years (y m d s : Int) (h : timeOk y m d s) : ∀ (n : Nat) (i : Int), 1950 ≤ i → i + n = y → Ev (fun k => impl_TimeOf.l0 k y m s (d - 1 + yrs i) i) (timeAt y m d s, true) := by
  have h' := h
  obtain ⟨⟨hy0, hy1⟩, ⟨hm0, hm1⟩, ⟨hd0, hd1⟩, hs0, hs1⟩ := h'
  have hdr := dim_range y m
  intro n
  induction n with
  | zero =>
    intro i hi hn
    obtain rfl : i = y := by omega
    have hyr : 0 ≤ yrs i ∧ yrs i ≤ 60000 := by unfold yrs; omega
    refine Ev.step (fun k => impl_TimeOf.l0.eq_2 _ _ _ _ _ _) (ev_neg (by omega) ?_)
    have := impl_months i m d s h (d - 1 + yrs i) (by omega) (by omega) (m - 1).toNat 1 (by omega) (by omega)
    rw [show (d - 1 + yrs i + cum i 1) = d - 1 + yrs i by simp [cum]] at this
    rw [show timeAt i m d s = -631152000 + (d - 1 + yrs i + cum i m) * 86400 + s by unfold timeAt; omega]
    exact this
  | succ n ih =>
    intro i hi hn
    have hyr : 0 ≤ yrs i ∧ yrs i ≤ 60000 := by unfold yrs; omega
    have := lpy_01 i
    refine Ev.step (fun k => impl_TimeOf.l0.eq_2 _ _ _ _ _ _) (ev_pos (by omega) (Ev.bind (daysOf_ev i (by omega)) ?_))
    rw [w64 (by omega) (by omega), w64 (by omega) (by omega), show d - 1 + yrs i + (365 + lpy i) = d - 1 + yrs (i + 1) by rw [yrs_succ]; omega]
    exact ih (i + 1) (by omega) (by omega)

theorem impl_timeOf (y m d s : Int) (h : timeOk y m d s) : Ev (fun k => impl_TimeOf.f k y m d s) (timeAt y m d s, true) := by
  have h' := h
  obtain ⟨h1, h2, h3, h4⟩ := h'
  refine ev_bindc (within_eq _ _ _) (ev_pos (by simp [h1]) (ev_bindc (within_eq _ _ _) (ev_pos (by simp [h2]) (Ev.bind (daysIn_ev y m (by omega) h2.1 h2.2) (ev_bindc (within_eq _ _ _) (ev_pos (by simp [h3]) (ev_bindc (within_eq _ _ _) ?_)))))))
  rw [decide_eq_true h4]
  refine Ev.step (fun k => impl_TimeOf.j0.eq_2 _ _ _ _ _ _) (ev_neg (by simp) ?_)
  have hdr := dim_range y m
  rw [w64 (by omega) (by omega)]
  have := impl_years y m d s h (y - 1950).toNat 1950 (by omega) (by omega)
  rw [yrs_1950] at this
  simpa using this
theorem impl_timeNo (y m d s : Int) (h : ¬ timeOk y m d s) : Ev (fun k => impl_TimeOf.f k y m d s) (0, false) := by
  have no : Ev (fun k => impl_TimeOf.j0 k y m d s true) (0, false) := Ev.step (fun k => impl_TimeOf.j0.eq_2 _ _ _ _ _ _) (ev_pos rfl (Ev.now _))
  refine ev_bindc (within_eq _ _ _) ?_
  by_cases h1 : 1950 ≤ y ∧ y ≤ 2099
  · refine ev_pos (by simp [h1]) (ev_bindc (within_eq _ _ _) ?_)
    by_cases h2 : 1 ≤ m ∧ m ≤ 12
    · refine ev_pos (by simp [h2]) (Ev.bind (daysIn_ev y m (by omega) h2.1 h2.2) (ev_bindc (within_eq _ _ _) ?_))
      by_cases h3 : 1 ≤ d ∧ d ≤ dim y m
      · refine ev_pos (by simp [h3]) (ev_bindc (within_eq _ _ _) ?_)
        rw [decide_eq_false (fun h4 => h ⟨h1, h2, h3, h4⟩)]
        exact no
      · exact ev_neg (by rw [decide_eq_false h3]; simp) no
    · exact ev_neg (by rw [decide_eq_false h2]; simp) no
  · exact ev_neg (by rw [decide_eq_false h1]; simp) no
/-! ### two digits each, read -/
def dig (s : ByteArray) (j : Nat) : Bool := decide (48 ≤ bt s (j : Int) ∧ bt s (j : Int) ≤ 57)
def pr (s : ByteArray) (i : Nat) : Int := 10 * (bt s ((2 * i : Nat) : Int) - 48) + (bt s ((2 * i + 1 : Nat) : Int) - 48)
def prs (s : ByteArray) (m : Nat) : List Int := (List.range m).map (pr s)
theorem prs_succ (s : ByteArray) (m : Nat) : prs s (m + 1) = prs s m ++ [pr s m] := by simp [prs, List.range_succ]
theorem prs_length (s : ByteArray) (m : Nat) : (prs s m).length = m := by simp [prs]
theorem bt_extract (s : ByteArray) (n j : Nat) (hn : n ≤ s.size) (hj : j < n) : bt (s.extract 0 n) (j : Int) = bt s (j : Int) := by
  have h1 : j < (s.extract 0 n).size := by rw [ByteArray.size_extract]; omega
  have h2 : j < s.size := by omega
  simp only [bt, Int.toNat_natCast, h1, h2, dif_pos, ByteArray.getElem_extract, Nat.zero_add]
theorem size_ext (s : ByteArray) (n : Nat) (hn : n ≤ s.size) : (s.extract 0 n).size = n := by rw [ByteArray.size_extract]; omega
theorem isDigit_eq (c : Int) : impl_isDigit.f c = some (decide (48 ≤ c ∧ c ≤ 57)) := by
  unfold impl_isDigit.f
  by_cases h : c ≥ 48
  · rw [if_pos h]; simp [show 48 ≤ c from h]
  · rw [if_neg h]; simp [show ¬ 48 ≤ c from h]
theorem readTwo_ev (s : ByteArray) (m : Nat) (hs : s.size = 2 * m) (hm : m ≤ 100) : Ev (fun k => impl_readTwo.f k s) (if (List.range s.size).all (dig s) = true then (prs s m, true) else ([], false)) := by
  have key : ∀ d i : Nat, i + d = m → (∀ j, j < 2 * i → dig s j = true) → Ev (fun k => impl_readTwo.l0 k s (prs s i) ((2 * i : Nat) : Int)) (if (List.range s.size).all (dig s) = true then (prs s m, true) else ([], false)) := by
    intro d
    induction d with
    | zero =>
      intro i hi hj
      obtain rfl : i = m := by omega
      have : (List.range s.size).all (dig s) = true := by
        rw [List.all_eq_true]; intro x hx; exact hj x (by have := List.mem_range.1 hx; omega)
      rw [if_pos this]
      exact Ev.step (fun k => impl_readTwo.l0.eq_2 _ _ _ _) (ev_neg (by unfold wrap64; omega) (Ev.now _))
    | succ d ih =>
      intro i hi hj
      have b0 := bt_range s ((2 * i : Nat) : Int)
      have b1 := bt_range s ((2 * i + 1 : Nat) : Int)
      have e1 : wrap64 (((2 * i : Nat) : Int) + 1) = ((2 * i + 1 : Nat) : Int) := by unfold wrap64; omega
      have no : ∀ j, j < s.size → dig s j = false → (if (List.range s.size).all (dig s) = true then (prs s m, true) else ([], false)) = ([], false) := by
        intro j hj1 hj2
        have : (List.range s.size).all (dig s) = false := by
          rw [List.all_eq_false]; exact ⟨j, List.mem_range.2 hj1, by simp [hj2]⟩
        rw [this]; rfl
      refine Ev.step (fun k => impl_readTwo.l0.eq_2 _ _ _ _) (ev_pos (by rw [e1]; omega) (ev_pos (by omega) (ev_pos (by omega) (ev_bindc (isDigit_eq _) ?_))))
      rw [e1]
      cases c0 : dig s (2 * i) with
      | false =>
        rw [no (2 * i) (by omega) c0]
        exact ev_neg (by unfold dig at c0; rw [c0]; simp) (Ev.now _)
      | true =>
        refine ev_pos c0 (ev_pos (by omega) (ev_bindc (isDigit_eq _) ?_))
        cases c1 : dig s (2 * i + 1) with
        | false =>
          rw [no (2 * i + 1) (by omega) c1]
          exact ev_neg (by unfold dig at c1; rw [c1]; simp) (Ev.now _)
        | true =>
          refine ev_pos c1 (ev_pos (by rw [prs_length]; omega) ?_)
          have d0 := of_decide_eq_true c0
          have d1 := of_decide_eq_true c1
          rw [show wrap64 (((2 * i : Nat) : Int) + 2) = ((2 * (i + 1) : Nat) : Int) by unfold wrap64; omega,
            show (bt s ((2 * i : Nat) : Int) - 48) % 256 * 10 + (bt s ((2 * i + 1 : Nat) : Int) - 48) % 256 = pr s i by unfold pr; omega, ← prs_succ]
          refine ih (i + 1) (by omega) ?_
          intro j hj'
          by_cases e : j = 2 * i
          · exact e ▸ c0
          · by_cases e' : j = 2 * i + 1
            · exact e' ▸ c1
            · exact hj j (by omega)
  exact key m 0 (by omega) (by intro j hj; omega)
theorem dig_ext (s : ByteArray) (n j : Nat) (hn : n ≤ s.size) (hj : j < n) : dig (s.extract 0 n) j = dig s j := by unfold dig; rw [bt_extract s n j hn hj]
theorem prs_ext (s : ByteArray) (m : Nat) (hn : 2 * m ≤ s.size) : prs (s.extract 0 (2 * m)) m = prs s m := by
  unfold prs
  apply List.map_congr_left
  intro i hi
  have := List.mem_range.1 hi
  unfold pr
  rw [bt_extract s (2 * m) _ hn (by omega), bt_extract s (2 * m) _ hn (by omega)]
theorem all_ext (s : ByteArray) (n : Nat) (hn : n ≤ s.size) : (List.range (s.extract 0 n).size).all (dig (s.extract 0 n)) = (List.range n).all (dig s) := by
  rw [size_ext s n hn, Bool.eq_iff_iff, List.all_eq_true, List.all_eq_true]
  constructor
  · intro h x hx; rw [← dig_ext s n x hn (List.mem_range.1 hx)]; exact h x hx
  · intro h x hx; rw [dig_ext s n x hn (List.mem_range.1 hx)]; exact h x hx
/-! ### texts of times, as lists; their order -/
def u8 (n : Int) : UInt8 := UInt8.ofNat n.toNat
theorem u8_toNat (n : Int) (h0 : 0 ≤ n) (h1 : n ≤ 255) : (u8 n).toNat = n.toNat := by
  unfold u8
  rw [UInt8.toNat_ofNat']
  omega
theorem u8_lt (m n : Int) (h0 : 0 ≤ m) (h1 : m ≤ 255) (h2 : 0 ≤ n) (h3 : n ≤ 255) : decide (u8 m < u8 n) = decide (m < n) := by
  rw [decide_eq_decide, UInt8.lt_iff_toNat_lt, u8_toNat m h0 h1, u8_toNat n h2 h3]
  omega
theorem u8_eq (m n : Int) (h0 : 0 ≤ m) (h1 : m ≤ 255) (h2 : 0 ≤ n) (h3 : n ≤ 255) : (u8 m == u8 n) = decide (m = n) := by
  rw [Bool.eq_iff_iff, beq_iff_eq, decide_eq_true_eq, ← UInt8.toNat_inj, u8_toNat m h0 h1, u8_toNat n h2 h3]
  omega
def tw (n : Int) : List Int := [48 + n / 10, 48 + n % 10]
theorem two_less (a b : Int) (ha : 0 ≤ a ∧ a ≤ 99) (hb : 0 ≤ b ∧ b ≤ 99) (x y : List UInt8) :
    Op.bytesLess ((tw a).map u8 ++ x) ((tw b).map u8 ++ y) = (decide (a < b) || (decide (a = b) && Op.bytesLess x y)) := by
  simp only [tw, List.map_cons, List.map_nil, List.cons_append, List.nil_append, Op.bytesLess]
  rw [u8_lt _ _ (by omega) (by omega) (by omega) (by omega), u8_lt _ _ (by omega) (by omega) (by omega) (by omega), u8_eq _ _ (by omega) (by omega) (by omega) (by omega), u8_eq _ _ (by omega) (by omega) (by omega) (by omega)]
  rw [Bool.eq_iff_iff]
  cases Op.bytesLess x y <;> simp <;> omega
theorem bytesLess_self (x : List UInt8) : Op.bytesLess x x = false := by
  induction x with
  | nil => rfl
  | cons a x ih => simp [Op.bytesLess, ih]
def restL (m d s : Int) : List Int := tw m ++ (tw d ++ (tw (s / 3600) ++ (tw (s / 60 % 60) ++ (tw (s % 60) ++ [90]))))
def longL (y m d s : Int) : List Int := tw (y / 100) ++ (tw (y % 100) ++ restL m d s)
def shortL (y m d s : Int) : List Int := tw (y % 100) ++ restL m d s
theorem tw_eq (n : Int) (h0 : 0 ≤ n) (h1 : n ≤ 100000) : impl_twoDigits.f n = some (strOfNums (tw (n % 100))) := by
  unfold impl_twoDigits.f tw
  rw [Int.tdiv_eq_ediv_of_nonneg h0, w64 (x := n / 10) (by omega) (by omega), Int.tmod_eq_emod_of_nonneg (by omega), Int.tmod_eq_emod_of_nonneg h0, w64 (by omega) (by omega), w64 (by omega) (by omega)]
  rw [show (48 + n / 10 % 10) % 256 = 48 + n % 100 / 10 by omega, show (48 + n % 10) % 256 = 48 + n % 100 % 10 by omega]
theorem str_app (x y : List Int) : strOfNums (x ++ y) = strOfNums x ++ strOfNums y := by
  apply ByteArray.ext
  rw [ByteArray.data_append]
  simp [strOfNums]
theorem tw_size (n : Int) : (strOfNums (tw n)).size = 2 := by rw [strOfNums_size]; rfl
theorem timeText_eq (m d s : Int) (hm : 0 ≤ m ∧ m ≤ 99) (hd : 0 ≤ d ∧ d ≤ 99) (hs : 0 ≤ s ∧ s ≤ 86399) : impl_timeText.f m d s = some (strOfNums (restL m d s)) := by
  unfold impl_timeText.f restL
  rw [Int.tdiv_eq_ediv_of_nonneg hs.1, Int.tdiv_eq_ediv_of_nonneg hs.1, w64 (x := s / 3600) (by omega) (by omega), w64 (x := s / 60) (by omega) (by omega), Int.tmod_eq_emod_of_nonneg (by omega), Int.tmod_eq_emod_of_nonneg (by omega)]
  rw [tw_eq m (by omega) (by omega), tw_eq d (by omega) (by omega), tw_eq (s / 3600) (by omega) (by omega), tw_eq (s / 60 % 60) (by omega) (by omega), tw_eq (s % 60) (by omega) (by omega)]
  simp only [Option.bind_some, ByteArray.size_append, tw_size]
  rw [if_pos (by decide), if_pos (by decide), if_pos (by decide), if_pos (by decide), if_pos (by decide)]
  rw [show m % 100 = m by omega, show d % 100 = d by omega, show s / 3600 % 100 = s / 3600 by omega, show s / 60 % 60 % 100 = s / 60 % 60 by omega, show s % 60 % 100 = s % 60 by omega]
  simp only [str_app, ByteArray.append_assoc]
  rfl
theorem restL_length (m d s : Int) : (restL m d s).length = 11 := rfl
/-- the order of two lists of parts -/
def lexB (y m d s y' m' d' s' : Int) : Bool := decide (y < y') || (decide (y = y') && (decide (m < m') || (decide (m = m') && (decide (d < d') || (decide (d = d') && decide (s < s'))))))
theorem rest_less (m d s m' d' s' : Int) (hm : 0 ≤ m ∧ m ≤ 99) (hd : 0 ≤ d ∧ d ≤ 99) (hs : 0 ≤ s ∧ s ≤ 86399) (hm' : 0 ≤ m' ∧ m' ≤ 99) (hd' : 0 ≤ d' ∧ d' ≤ 99) (hs' : 0 ≤ s' ∧ s' ≤ 86399) :
    Op.bytesLess ((restL m d s).map u8) ((restL m' d' s').map u8) = (decide (m < m') || (decide (m = m') && (decide (d < d') || (decide (d = d') && decide (s < s'))))) := by
  unfold restL
  simp only [List.map_append]
  rw [two_less _ _ hm hm', two_less _ _ hd hd', two_less _ _ (by omega) (by omega), two_less _ _ (by omega) (by omega), two_less _ _ (by omega) (by omega), bytesLess_self]
  congr 1
  congr 1
  congr 1
  congr 1
  rw [Bool.eq_iff_iff]
  simp
  omega
theorem long_less (y m d s y' m' d' s' : Int) (hy : 0 ≤ y ∧ y ≤ 9999) (hy' : 0 ≤ y' ∧ y' ≤ 9999) (hm : 0 ≤ m ∧ m ≤ 99) (hd : 0 ≤ d ∧ d ≤ 99) (hs : 0 ≤ s ∧ s ≤ 86399) (hm' : 0 ≤ m' ∧ m' ≤ 99) (hd' : 0 ≤ d' ∧ d' ≤ 99) (hs' : 0 ≤ s' ∧ s' ≤ 86399) :
    Op.bytesLess ((longL y m d s).map u8) ((longL y' m' d' s').map u8) = lexB y m d s y' m' d' s' := by
  unfold longL lexB
  simp only [List.map_append]
  rw [two_less _ _ (by omega) (by omega), two_less _ _ (by omega) (by omega), rest_less m d s m' d' s' hm hd hs hm' hd' hs']
  generalize (decide (m < m') || (decide (m = m') && (decide (d < d') || (decide (d = d') && decide (s < s'))))) = b
  rw [Bool.eq_iff_iff]
  cases b <;> simp <;> omega
theorem time_lt (y m d s y' m' d' s' : Int) (h : timeOk y m d s) (h' : timeOk y' m' d' s') (hl : lexB y m d s y' m' d' s' = true) : timeAt y m d s < timeAt y' m' d' s' := by
  obtain ⟨⟨y0, y1⟩, ⟨m0, m1⟩, ⟨d0, d1⟩, s0, s1⟩ := h
  obtain ⟨⟨y0', y1'⟩, ⟨m0', m1'⟩, ⟨d0', d1'⟩, s0', s1'⟩ := h'
  have cs := cum_succ y m m0 m1
  have cm : ∀ (n : Nat) (a : Int), 1 ≤ a → a + n ≤ 13 → cum y a ≤ cum y (a + n) := by
    intro n
    induction n with
    | zero => intro a _ _; simp
    | succ n ih =>
      intro a h0 h1
      have e1 := ih a h0 (by omega)
      have e2 := cum_succ y (a + n) (by omega) (by omega)
      have e3 := dim_range y (a + n)
      rw [show a + ((n + 1 : Nat) : Int) = a + n + 1 by omega]
      omega
  have c13 := cum_13 y
  unfold lexB at hl
  simp only [Bool.or_eq_true, Bool.and_eq_true, decide_eq_true_eq] at hl
  unfold timeAt
  rcases hl with hy | ⟨rfl, hm | ⟨rfl, hd | ⟨rfl, hs⟩⟩⟩
  · have e1 := cm (13 - (m + 1)).toNat (m + 1) (by omega) (by omega)
    rw [show m + 1 + ((13 - (m + 1)).toNat : Int) = 13 by omega] at e1
    have e2 := yrs_succ y
    have e3 : yrs (y + 1) ≤ yrs y' := by unfold yrs; omega
    have e4 := cum_range y' m'
    omega
  · have e1 := cm (m' - (m + 1)).toNat (m + 1) (by omega) (by omega)
    rw [show m + 1 + ((m' - (m + 1)).toNat : Int) = m' by omega] at e1
    omega
  · omega
  · omega
theorem lex_total (y m d s y' m' d' s' : Int) (h : lexB y m d s y' m' d' s' = false) : lexB y' m' d' s' y m d s = true ∨ (y = y' ∧ m = m' ∧ d = d' ∧ s = s') := by
  unfold lexB at *
  simp only [Bool.or_eq_false_iff, Bool.and_eq_false_iff, decide_eq_false_iff_not, Bool.or_eq_true, Bool.and_eq_true, decide_eq_true_eq] at *
  omega
theorem time_order (y m d s y' m' d' s' : Int) (h : timeOk y m d s) (h' : timeOk y' m' d' s') : lexB y m d s y' m' d' s' = decide (timeAt y m d s < timeAt y' m' d' s') := by
  cases c : lexB y m d s y' m' d' s' with
  | true => exact (decide_eq_true (time_lt _ _ _ _ _ _ _ _ h h' c)).symm
  | false =>
    rcases lex_total _ _ _ _ _ _ _ _ c with q | ⟨rfl, rfl, rfl, rfl⟩
    · have := time_lt _ _ _ _ _ _ _ _ h' h q
      exact (decide_eq_false (by omega)).symm
    · exact (decide_eq_false (by omega)).symm
theorem bt_str (l : List Int) (hl : ∀ x ∈ l, 0 ≤ x ∧ x ≤ 255) (j : Nat) (hj : j < l.length) : bt (strOfNums l) (j : Int) = l.getD j 0 := by
  have hs : j < (strOfNums l).size := by rw [strOfNums_size]; exact hj
  have hx := hl (l.getD j 0) (by rw [List.getD_eq_getElem?_getD, List.getElem?_eq_getElem hj]; exact List.getElem_mem hj)
  unfold bt
  rw [dif_pos (by simpa using hs)]
  have e : (strOfNums l)[j]'hs = u8 (l.getD j 0) := by
    simp only [strOfNums, ByteArray.getElem_eq_getElem_data, List.getElem_toArray, List.getElem_map, u8]
    rw [List.getD_eq_getElem?_getD, List.getElem?_eq_getElem hj]
    rfl
  have := u8_toNat (l.getD j 0) hx.1 hx.2
  simp only [Int.toNat_natCast, e]
  omega
theorem getD_app (x : List Int) (z : List Int) (j : Nat) (h : j < x.length) : (x ++ z).getD j 0 = x.getD j 0 := by
  rw [List.getD_eq_getElem?_getD, List.getElem?_append_left h, ← List.getD_eq_getElem?_getD]
theorem getD_in {l : List Int} {j : Nat} (h : j < l.length) : l.getD j 0 ∈ l := by
  rw [List.getD_eq_getElem?_getD, List.getElem?_eq_getElem h]
  exact List.getElem_mem h
theorem tw_in (a : Int) (h : 0 ≤ a ∧ a ≤ 99) : ∀ x ∈ tw a, 48 ≤ x ∧ x ≤ 57 := by
  intro x hx
  simp only [tw, List.mem_cons, List.not_mem_nil, or_false] at hx
  omega
def preL (m d s : Int) : List Int := tw m ++ (tw d ++ (tw (s / 3600) ++ (tw (s / 60 % 60) ++ tw (s % 60))))
theorem pre_rest (m d s : Int) : restL m d s = preL m d s ++ [90] := by simp [restL, preL]
theorem pre_in (m d s : Int) (hm : 0 ≤ m ∧ m ≤ 99) (hd : 0 ≤ d ∧ d ≤ 99) (hs : 0 ≤ s ∧ s ≤ 86399) : ∀ x ∈ preL m d s, 48 ≤ x ∧ x ≤ 57 := by
  intro x hx
  simp only [preL, List.mem_append] at hx
  rcases hx with h | h | h | h | h
  · exact tw_in _ hm x h
  · exact tw_in _ hd x h
  · exact tw_in _ (by omega) x h
  · exact tw_in _ (by omega) x h
  · exact tw_in _ (by omega) x h
theorem readTwo_text (P : List Int) (m : Nat) (hP : ∀ x ∈ P, 48 ≤ x ∧ x ≤ 57) (hl : P.length = 2 * m) (hm : m ≤ 100) (z : List Int) (hz : z = P ++ [90]) :
    (∀ j : Nat, j < 2 * m → bt (strOfNums z) (j : Int) = P.getD j 0) ∧ bt (strOfNums z) ((2 * m : Nat) : Int) = 90 ∧ Ev (fun k => impl_readTwo.f k ((strOfNums z).extract 0 (2 * m))) (prs (strOfNums z) m, true) := by
  subst hz
  have hr : ∀ x ∈ P ++ [90], 0 ≤ x ∧ x ≤ 255 := by
    intro x hx
    rcases List.mem_append.1 hx with h | h
    · have := hP x h
      omega
    · rw [List.mem_singleton.1 h]
      decide
  have hs : (strOfNums (P ++ [90])).size = 2 * m + 1 := by rw [strOfNums_size]; simp [hl]
  have hb : ∀ j : Nat, j < 2 * m → bt (strOfNums (P ++ [90])) (j : Int) = P.getD j 0 := by
    intro j hj
    rw [bt_str _ hr j (by simp; omega), getD_app _ _ _ (by omega)]
  refine ⟨hb, ?_, ?_⟩
  · rw [bt_str _ hr _ (by simp; omega), List.getD_eq_getElem?_getD, List.getElem?_append_right (by omega), hl]
    simp
  · have hd : ∀ j, j < 2 * m → dig (strOfNums (P ++ [90])) j = true := by
      intro j hj
      unfold dig
      rw [hb j hj]
      exact decide_eq_true (hP _ (getD_in (by omega)))
    have := readTwo_ev ((strOfNums (P ++ [90])).extract 0 (2 * m)) m (size_ext _ _ (by omega)) hm
    rw [all_ext _ _ (by omega), if_pos ?_, prs_ext _ _ (by omega)] at this
    · exact this
    · rw [List.all_eq_true]
      intro j hj
      exact hd j (List.mem_range.1 hj)
theorem timeOk_sum (y m d s : Int) (h : timeOk y m d s) : timeOk y m d (3600 * (s / 3600) + 60 * (s / 60 % 60) + s % 60) ∧ timeAt y m d (3600 * (s / 3600) + 60 * (s / 60 % 60) + s % 60) = timeAt y m d s := by
  have : 3600 * (s / 3600) + 60 * (s / 60 % 60) + s % 60 = s := by omega
  rw [this]
  exact ⟨h, rfl⟩
theorem readLong (y m d s : Int) (h : timeOk y m d s) : Ev (fun k => impl_ReadTime.f k (strOfNums (longL y m d s))) (timeAt y m d s, true) := by
  have h' := h
  obtain ⟨hy, hm, hd, hs⟩ := h'
  have hdr := dim_range y m
  have hz : longL y m d s = (tw (y / 100) ++ (tw (y % 100) ++ preL m d s)) ++ [90] := by unfold longL; rw [pre_rest]; simp
  have hP : ∀ x ∈ tw (y / 100) ++ (tw (y % 100) ++ preL m d s), 48 ≤ x ∧ x ≤ 57 := by
    intro x hx
    rcases List.mem_append.1 hx with q | q
    · exact tw_in _ (by omega) x q
    · rcases List.mem_append.1 q with q | q
      · exact tw_in _ (by omega) x q
      · exact pre_in m d s (by omega) (by omega) (by omega) x q
  obtain ⟨hb, h90, hr⟩ := readTwo_text _ 7 hP rfl (by decide) _ hz
  have hsz : (strOfNums (longL y m d s)).size = 15 := by rw [strOfNums_size]; rfl
  have e : prs (strOfNums (longL y m d s)) 7 = [y / 100, y % 100, m, d, s / 3600, s / 60 % 60, s % 60] := by
    have p : ∀ (i : Nat) (a : Int), i < 7 → (tw (y / 100) ++ (tw (y % 100) ++ preL m d s)).getD (2 * i) 0 = 48 + a / 10 → (tw (y / 100) ++ (tw (y % 100) ++ preL m d s)).getD (2 * i + 1) 0 = 48 + a % 10 → pr (strOfNums (longL y m d s)) i = a := by
      intro i a hi h0 h1
      unfold pr
      rw [hb _ (by omega), hb _ (by omega), h0, h1]
      omega
    unfold prs
    rw [show List.range 7 = [0, 1, 2, 3, 4, 5, 6] from rfl]
    simp only [List.map_cons, List.map_nil]
    rw [p 0 (y / 100) (by decide) rfl rfl, p 1 (y % 100) (by decide) rfl rfl, p 2 m (by decide) rfl rfl, p 3 d (by decide) rfl rfl, p 4 (s / 3600) (by decide) rfl rfl, p 5 (s / 60 % 60) (by decide) rfl rfl, p 6 (s % 60) (by decide) rfl rfl]
  rw [e] at hr
  clear e hb hP hz
  obtain ⟨g1, g2⟩ := timeOk_sum y m d s h
  have g := impl_timeOf _ _ _ _ g1
  rw [g2] at g
  generalize strOfNums (longL y m d s) = b at *
  have e14 : wrap64 ((b.size : Int) - 1) = 14 := by unfold wrap64; omega
  refine ev_neg (by omega) (ev_pos (by omega) ?_)
  rw [e14, show (bt b 14 != 90) = false by simpa using h90]
  refine ev_pos (by omega) (ev_pos (by omega) (Ev.step (fun k => impl_ReadTime.j0.eq_2 _ _ _) (ev_neg (by simp) ?_)))
  rw [e14]
  refine ev_pos (by omega) (ev_pos (by omega) (Ev.bind hr (ev_pos rfl (ev_pos (by simp) (ev_pos (by simp) (ev_pos (by omega) (ev_pos (by simp) (Ev.bind (Ev.now [y % 100, m, d, s / 3600, s / 60 % 60, s % 60]) (ev_pos (by simp) ?_)))))))))
  refine ev_neg (show ¬ s / 3600 > 23 by omega) (ev_pos (by simp) (ev_neg (show ¬ s / 60 % 60 > 59 by omega) (ev_pos (by simp) (ev_neg (show ¬ s % 60 > 59 by omega) (ev_pos (by simp) ?_)))))
  refine Ev.bind (a := (timeAt y m d s, true)) ?_ (Ev.now _)
  show Ev (fun k => impl_TimeOf.f k (wrap64 (wrap64 (y / 100 * 100) + y % 100)) m d (wrap64 (wrap64 (wrap64 (s / 3600 * 3600) + wrap64 (s / 60 % 60 * 60)) + s % 60))) (timeAt y m d s, true)
  rw [show wrap64 (wrap64 (wrap64 (s / 3600 * 3600) + wrap64 (s / 60 % 60 * 60)) + s % 60) = 3600 * (s / 3600) + 60 * (s / 60 % 60) + s % 60 by unfold wrap64; omega, show wrap64 (wrap64 (y / 100 * 100) + y % 100) = y by unfold wrap64; omega]
  exact g
theorem readShort (y m d s : Int) (h : timeOk y m d s) (hy2 : y < 2050) : Ev (fun k => impl_ReadTime.f k (strOfNums (shortL y m d s))) (timeAt y m d s, true) := by
  have h' := h
  obtain ⟨hy, hm, hd, hs⟩ := h'
  have hdr := dim_range y m
  have hz : shortL y m d s = (tw (y % 100) ++ preL m d s) ++ [90] := by unfold shortL; rw [pre_rest]; simp
  have hP : ∀ x ∈ tw (y % 100) ++ preL m d s, 48 ≤ x ∧ x ≤ 57 := by
    intro x q
    rcases List.mem_append.1 q with q | q
    · exact tw_in _ (by omega) x q
    · exact pre_in m d s (by omega) (by omega) (by omega) x q
  obtain ⟨hb, h90, hr⟩ := readTwo_text _ 6 hP rfl (by decide) _ hz
  have hsz : (strOfNums (shortL y m d s)).size = 13 := by rw [strOfNums_size]; rfl
  have e : prs (strOfNums (shortL y m d s)) 6 = [y % 100, m, d, s / 3600, s / 60 % 60, s % 60] := by
    have p : ∀ (i : Nat) (a : Int), i < 6 → (tw (y % 100) ++ preL m d s).getD (2 * i) 0 = 48 + a / 10 → (tw (y % 100) ++ preL m d s).getD (2 * i + 1) 0 = 48 + a % 10 → pr (strOfNums (shortL y m d s)) i = a := by
      intro i a hi h0 h1
      unfold pr
      rw [hb _ (by omega), hb _ (by omega), h0, h1]
      omega
    unfold prs
    rw [show List.range 6 = [0, 1, 2, 3, 4, 5] from rfl]
    simp only [List.map_cons, List.map_nil]
    rw [p 0 (y % 100) (by decide) rfl rfl, p 1 m (by decide) rfl rfl, p 2 d (by decide) rfl rfl, p 3 (s / 3600) (by decide) rfl rfl, p 4 (s / 60 % 60) (by decide) rfl rfl, p 5 (s % 60) (by decide) rfl rfl]
  rw [e] at hr
  clear e hb hP hz
  obtain ⟨g1, g2⟩ := timeOk_sum y m d s h
  have g := impl_timeOf _ _ _ _ g1
  rw [g2] at g
  generalize strOfNums (shortL y m d s) = b at *
  have e12 : wrap64 ((b.size : Int) - 1) = 12 := by unfold wrap64; omega
  refine ev_pos (by omega) ?_
  rw [e12, show (bt b 12 != 90) = false by simpa using h90]
  refine ev_pos (by omega) (ev_pos (by omega) (Ev.step (fun k => impl_ReadTime.j0.eq_2 _ _ _) (ev_neg (by simp) ?_)))
  rw [e12]
  refine ev_pos (by omega) (ev_pos (by omega) (Ev.bind hr (ev_pos rfl (ev_pos (by simp) (ev_pos (by simp) (ev_neg (by omega) ?_))))))
  by_cases c : y % 100 < 50
  · refine ev_pos c (ev_pos (by simp) ?_)
    refine ev_neg (show ¬ s / 3600 > 23 by omega) (ev_pos (by simp) (ev_neg (show ¬ s / 60 % 60 > 59 by omega) (ev_pos (by simp) (ev_neg (show ¬ s % 60 > 59 by omega) (ev_pos (by simp) ?_)))))
    refine Ev.bind (a := (timeAt y m d s, true)) ?_ (Ev.now _)
    show Ev (fun k => impl_TimeOf.f k (wrap64 (wrap64 (1900 + y % 100) + 100)) m d (wrap64 (wrap64 (wrap64 (s / 3600 * 3600) + wrap64 (s / 60 % 60 * 60)) + s % 60))) (timeAt y m d s, true)
    rw [show wrap64 (wrap64 (wrap64 (s / 3600 * 3600) + wrap64 (s / 60 % 60 * 60)) + s % 60) = 3600 * (s / 3600) + 60 * (s / 60 % 60) + s % 60 by unfold wrap64; omega, show wrap64 (wrap64 (1900 + y % 100) + 100) = y by unfold wrap64; omega]
    exact g
  · refine ev_neg c (ev_pos (by simp) ?_)
    refine ev_neg (show ¬ s / 3600 > 23 by omega) (ev_pos (by simp) (ev_neg (show ¬ s / 60 % 60 > 59 by omega) (ev_pos (by simp) (ev_neg (show ¬ s % 60 > 59 by omega) (ev_pos (by simp) ?_)))))
    refine Ev.bind (a := (timeAt y m d s, true)) ?_ (Ev.now _)
    show Ev (fun k => impl_TimeOf.f k (wrap64 (1900 + y % 100)) m d (wrap64 (wrap64 (wrap64 (s / 3600 * 3600) + wrap64 (s / 60 % 60 * 60)) + s % 60))) (timeAt y m d s, true)
    rw [show wrap64 (wrap64 (wrap64 (s / 3600 * 3600) + wrap64 (s / 60 % 60 * 60)) + s % 60) = 3600 * (s / 3600) + 60 * (s / 60 % 60) + s % 60 by unfold wrap64; omega, show wrap64 (1900 + y % 100) = y by unfold wrap64; omega]
    exact g
theorem bt_list (l : List Int) : (strOfNums l).toList = l.map u8 := by
  rw [ByteArray.toList_eq]
  simp [strOfNums, u8]
theorem longTime_ev (t : Int) (h : inTime t) : ∃ y m d s, timeOk y m d s ∧ t = timeAt y m d s ∧ Ev (fun k => impl_DayOf.f k t) (y, m, d, s) ∧ Ev (fun k => impl_LongTime.f k t) (strOfNums (longL y m d s), true) ∧
    Ev (fun k => impl_ShortTime.f k t) (if y < 2050 then (strOfNums (shortL y m d s), true) else ((⟨#[]⟩ : ByteArray), false)) := by
  obtain ⟨y, m, d, s, hy, hm, hd, hs, ht, hf⟩ := dayOf_impl t h
  have hdr := dim_range y m
  refine ⟨y, m, d, s, ⟨hy, hm, hd, hs⟩, ht, hf, ?_, ?_⟩
  · have e1 := tw_eq (y / 100) (by omega) (by omega)
    rw [show y / 100 % 100 = y / 100 by omega] at e1
    refine Ev.bind hf (ev_neg (show ¬ y = 0 by omega) (ev_bindc (a := strOfNums (tw (y / 100))) ?_ (ev_bindc (tw_eq y (by omega) (by omega)) (ev_pos (by rw [tw_size, tw_size]; decide) (ev_bindc (timeText_eq m d s (by omega) (by omega) (by omega)) (ev_pos (by rw [ByteArray.size_append, tw_size, tw_size, strOfNums_size, restL_length]; decide) ?_))))))
    · show impl_twoDigits.f (wrap64 (Int.tdiv y 100)) = _
      rw [Int.tdiv_eq_ediv_of_nonneg (by omega), w64 (by omega) (by omega)]
      exact e1
    · rw [show strOfNums (longL y m d s) = (strOfNums (tw (y / 100)) ++ strOfNums (tw (y % 100))) ++ strOfNums (restL m d s) by unfold longL; rw [str_app, str_app, ByteArray.append_assoc]]
      exact Ev.now _
  · by_cases c : y < 2050
    · rw [if_pos c]
      refine Ev.bind hf (ev_bindc (within_eq _ _ _) (ev_pos (decide_eq_true ⟨hy.1, by omega⟩) (ev_bindc (tw_eq y (by omega) (by omega)) (ev_bindc (timeText_eq m d s (by omega) (by omega) (by omega)) (ev_pos (by rw [tw_size, strOfNums_size, restL_length]; decide) ?_)))))
      rw [show strOfNums (shortL y m d s) = strOfNums (tw (y % 100)) ++ strOfNums (restL m d s) by unfold shortL; rw [str_app]]
      exact Ev.now _
    · rw [if_neg c]
      exact Ev.bind hf (ev_bindc (within_eq _ _ _) (ev_neg (by rw [decide_eq_false (by omega)]; simp) (Ev.now _)))
theorem draw9 {l : List Int} {p : Int} (h : At l p) (s : Int) : ∃ v p' s', spec_l9Draw.f l p s = some (v, p', s') ∧ -1000000000 ≤ v ∧ v ≤ 5000000000 := by
  unfold spec_l9Draw.f
  obtain ⟨b, p1, s1, e1, h1⟩ := once_some h s 8 (by omega) (by omega)
  rw [e1]
  simp only [Option.bind_some]
  by_cases c : b = true
  · rw [if_pos c]
    obtain ⟨v, p2, s2, e2, hv, h2⟩ := pick_some h1 s1 [(-631152000), (-631152001), 4102444799, 4102444800, 0, (-1), 951782400, 2524607999, 2524608000] (by simp) (by simp)
    rw [e2]
    refine ⟨_, _, _, rfl, ?_⟩
    clear e2
    simp only [List.mem_cons, List.not_mem_nil, or_false] at hv
    dsimp only
    omega
  · rw [if_neg c]
    obtain ⟨v, p2, s2, e2, a0, a1, h2⟩ := below_some h1 s1 40000 (by omega) (by omega)
    rw [e2]
    simp only [Option.bind_some]
    obtain ⟨v3, p3, s3, e3, b0, b1, h3⟩ := below_some h2 s2 60000 (by omega) (by omega)
    rw [e3]
    simp only [Option.bind_some]
    obtain ⟨v4, p4, s4, e4, c0, c1, h4⟩ := below_some h3 s3 60000 (by omega) (by omega)
    rw [e4]
    simp only [Option.bind_some]
    have m0 : 0 ≤ v * v3 := Int.mul_nonneg a0 b0
    have m1 : v * v3 ≤ 40000 * 60000 := Int.mul_le_mul (by omega) (by omega) b0 (by omega)
    rw [w64 (x := v * v3) (by omega) (by omega), w64 (by omega) (by omega)]
    exact ⟨_, _, _, rfl, by omega, by omega⟩
theorem at_some (l : List Int) (hl : l.length ≤ 1048576) (hb : ∀ x ∈ l, 0 ≤ x ∧ x ≤ 255) (i : Int) (h0 : 0 ≤ i) (h1 : i ≤ 10) : ∃ v, laws_at.f l i = some v ∧ 0 ≤ v ∧ v ≤ 255 := by
  unfold laws_at.f
  by_cases c : i < (l.length : Int)
  · rw [if_pos c, if_pos h0]
    have := hb _ (rd_mem h0 c)
    rw [w64 (by omega) (by omega)]
    exact ⟨_, rfl, this⟩
  · rw [if_neg c, w64 (x := i * 7) (by omega) (by omega), w64 (by omega) (by omega), Int.tmod_eq_emod_of_nonneg (by omega)]
    exact ⟨_, rfl, by omega, by omega⟩
theorem span_eq (a b : Int) (ha : inTime a) (hb : inTime b) (h : a ≤ b) : impl_Span.f a b = some ((b - a + 86399) / 86400) := by
  unfold impl_Span.f
  unfold inTime at ha hb
  rw [isTime_eq, isTime_eq, decide_eq_true ha, decide_eq_true hb]
  simp only [Option.bind_some, if_true]
  rw [if_neg (by omega), w64 (x := b - a) (by omega) (by omega), w64 (x := b - a + 86400) (by omega) (by omega), w64 (x := b - a + 86400 - 1) (by omega) (by omega), Int.tdiv_eq_ediv_of_nonneg (by omega), w64 (by omega) (by omega)]
  congr 2
  omega
theorem within3 (a b c : Int) (ha : inTime a) (hb : inTime b) (hc : inTime c) : impl_Within.f a b c = some (decide (b ≤ a ∧ a ≤ c)) := by
  unfold impl_Within.f
  unfold inTime at ha hb hc
  rw [isTime_eq, isTime_eq, isTime_eq, decide_eq_true ha, decide_eq_true hb, decide_eq_true hc]
  simp only [Option.bind_some, if_true]
  by_cases c1 : b ≤ a
  · rw [if_pos c1]; simp [c1]
  · rw [if_neg c1]; simp [c1]
theorem FnTimes : laws_FnTimes.Pure := by
  intro l _ _ hw
  by_cases c0 : (l.length : Int) > 1048576
  · exact ev_k (ev_bindc (show laws_big.f l = some true by unfold laws_big.f; rw [decide_eq_true c0]) (ev_pos rfl (Ev.now _)))
  have hl : l.length ≤ 1048576 := by omega
  have hb : ∀ x ∈ l, 0 ≤ x ∧ x ≤ 255 := fun x hx => wf8 (hw x hx)
  obtain ⟨sd, hn⟩ := new_ev l hl
  obtain ⟨t, p1, s1, e1, t0, t1⟩ := draw9 (l := l) (p := 0) ⟨hl, by omega, by omega⟩ sd
  have hd : Ev (fun k => spec_DrawDayOf.f k l) t := Ev.bind hn (ev_bindc e1 (Ev.now _))
  refine ev_k (ev_bindc (show laws_big.f l = some false by unfold laws_big.f; rw [decide_eq_false c0]) (ev_neg (by simp) (Ev.bind hd ?_)))
  by_cases h : inTime t
  · obtain ⟨y, m, d, s, hok, ht, hf, hlong, hshort⟩ := longTime_ev t h
    have hok' := hok
    obtain ⟨hy, hm, hdd, hs⟩ := hok'
    have hdr := dim_range y m
    have hto := impl_timeOf y m d s hok
    have hrl := readLong y m d s hok
    rw [← ht] at hto hrl
    have h' := h
    unfold inTime at h'
    refine Ev.bind hf (ev_neg (by omega) ?_)
    rw [decide_eq_false (show ¬ t > 4102444799 by omega)]
    have hsz : (strOfNums (longL y m d s)).size = 15 := by rw [strOfNums_size]; rfl
    refine Ev.step (fun k => laws_FnTimes.j0.eq_2 _ _ _ _ _ _ _ _) (ev_neg (by simp) (Ev.bind hto (Ev.bind hlong (Ev.bind hrl (ev_pos rfl (ev_pos rfl (ev_pos rfl (ev_pos rfl (ev_pos rfl ?_)))))))))
    rw [show (((strOfNums (longL y m d s)).size : Int) != 15) = false by rw [hsz]; rfl]
    have j3 : Ev (fun k => laws_FnTimes.j3 k t false) true := by
      have sp := span_eq t t h h (by omega)
      rw [show (t - t + 86399) / 86400 = 0 by omega] at sp
      have wi := within3 t t t h h h
      rw [decide_eq_true ⟨Int.le_refl _, Int.le_refl _⟩] at wi
      refine Ev.step (fun k => laws_FnTimes.j3.eq_2 _ _ _) (ev_neg (by simp) (ev_bindc sp (ev_pos rfl (ev_bindc wi (ev_pos rfl ?_)))))
      by_cases c : t = 4102444799
      · exact ev_pos c (Ev.now _)
      · have h2 : inTime (t + 1) := by unfold inTime; omega
        have sp2 := span_eq t (t + 1) h h2 (by omega)
        rw [show (t + 1 - t + 86399) / 86400 = 1 by omega] at sp2
        have wi2 := within3 (t + 1) t t h2 h h
        rw [decide_eq_false (show ¬ (t ≤ t + 1 ∧ t + 1 ≤ t) by omega)] at wi2
        refine ev_neg c ?_
        rw [w64 (x := t + 1) (by omega) (by omega)]
        exact ev_bindc sp2 (ev_pos rfl (ev_bindc wi2 (Ev.now _)))
    have j2 : Ev (fun k => laws_FnTimes.j2 k l t (strOfNums (longL y m d s))) true := by
      obtain ⟨a, ea, a0, a1⟩ := at_some l hl hb 0 (by omega) (by omega)
      obtain ⟨b, eb, b0, b1⟩ := at_some l hl hb 1 (by omega) (by omega)
      have m0 : 0 ≤ a * b := Int.mul_nonneg a0 b0
      have m1 : a * b ≤ 255 * 255 := Int.mul_le_mul a1 b1 b0 (by omega)
      refine Ev.step (fun k => laws_FnTimes.j2.eq_2 _ _ _ _) (ev_bindc ea (ev_bindc eb ?_))
      rw [w64 (x := a * b) (by omega) (by omega), w64 (x := t + a * b) (by omega) (by omega)]
      by_cases h2 : inTime (t + a * b)
      · obtain ⟨y', m', d', s', ok2, ht2, _, hl2, _⟩ := longTime_ev _ h2
        have ok2' := ok2
        obtain ⟨hy', hm', hd', hs'⟩ := ok2'
        have hdr' := dim_range y' m'
        refine Ev.bind hl2 (ev_pos rfl ?_)
        rw [bt_list, bt_list, long_less y m d s y' m' d' s' (by omega) (by omega) (by omega) (by omega) (by omega) (by omega) (by omega) (by omega), time_order _ _ _ _ _ _ _ _ hok ok2, ← ht, ← ht2]
        rw [show (decide (t < t + a * b) != decide (t + a * b > t)) = false from bne_self_eq_false _]
        exact j3
      · have hlo : Ev (fun k => impl_LongTime.f k (t + a * b)) ((⟨#[]⟩ : ByteArray), false) := Ev.bind (impl_dayNo _ h2) (ev_pos rfl (Ev.now _))
        exact Ev.bind hlo (ev_neg (by simp) j3)
    refine Ev.step (fun k => laws_FnTimes.j1.eq_2 _ _ _ _ _ _) (ev_neg (by simp) (Ev.bind hshort ?_))
    by_cases c : y < 2050
    · have hrs := readShort y m d s hok c
      rw [← ht] at hrs
      rw [if_pos c, decide_eq_true c]
      exact ev_neg (by simp) (ev_pos rfl (Ev.bind hrs (ev_pos rfl (ev_pos rfl j2))))
    · rw [if_neg c, decide_eq_false c]
      exact ev_neg (by simp) (ev_neg (by simp) j2)
  · have h' := h
    unfold inTime at h'
    have fin : Ev (fun k => laws_FnTimes.j0 k l t 0 0 0 0 true) true := Ev.step (fun k => laws_FnTimes.j0.eq_2 _ _ _ _ _ _ _ _) (ev_pos rfl (ev_pos rfl (ev_pos rfl (ev_pos rfl (Ev.now _)))))
    refine Ev.bind (impl_dayNo t h) ?_
    by_cases c : t < -631152000
    · exact ev_pos c fin
    · refine ev_neg c ?_
      rw [decide_eq_true (show t > 4102444799 by omega)]
      exact fin

end Go.Proofs.Ythhomopijhopfaa.Pure
