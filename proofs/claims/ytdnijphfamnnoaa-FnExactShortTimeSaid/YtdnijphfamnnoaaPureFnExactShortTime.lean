/- The program's ShortTime returns what the reference's returns, for all arguments (no condition). -/
import Derived.Test.YtdnijphfamnnoaaGFnExactShortTimex2
import Derived.Test.YtdnijphfamnnoaaBase
namespace Go.Proofs.Ytdnijphfamnnoaa.Pure
open Go.RowKit Go.Proofs.Ytdnijphfamnnoaa.GFnExactShortTime Go.Proofs.YtdnijphfamnnoaaW.PrintWords Go.Proofs.YtdnijphfamnnoaaW.PrintLast Go.Proofs.Ytdnijphfamnnoaa.Base
set_option linter.unusedVariables false
set_option linter.unusedSimpArgs false

theorem l1In_eq (x a b : Int) : spec_l1In.f x a b = some (decide (a ≤ x ∧ x ≤ b)) := by
  unfold spec_l1In.f
  by_cases h : x ≥ a
  · rw [if_pos h]; simp [show a ≤ x from h]
  · rw [if_neg h]; simp [show ¬ a ≤ x from h]
theorem within_eq (x a b : Int) : impl_within.f x a b = some (decide (a ≤ x ∧ x ≤ b)) := l1In_eq x a b
/-! ### days of months and years -/
def lpy (y : Int) : Int := if y % 4 = 0 then 1 else 0
theorem lpy_01 (y : Int) : 0 ≤ lpy y ∧ lpy y ≤ 1 := by unfold lpy; split <;> omega
def dim (y m : Int) : Int := if m = 2 then 28 + lpy y else if m = 4 ∨ m = 6 ∨ m = 9 ∨ m = 11 then 30 else 31
theorem dim_range (y m : Int) : 28 ≤ dim y m ∧ dim y m ≤ 31 := by
  have := lpy_01 y
  unfold dim; split
  · omega
  · split <;> omega
/-- the days of a year ahead of a month -/
def cum (y m : Int) : Int :=
  if m ≤ 1 then 0 else if m = 2 then 31 else lpy y + (if m = 3 then 59 else if m = 4 then 90 else if m = 5 then 120 else if m = 6 then 151 else if m = 7 then 181
    else if m = 8 then 212 else if m = 9 then 243 else if m = 10 then 273 else if m = 11 then 304 else if m = 12 then 334 else 365)
/-- the days from 1950 on to a year -/
def yrs (y : Int) : Int := 365 * (y - 1950) + ((y + 3) / 4 - 488)
theorem months {m : Int} (h0 : 1 ≤ m) (h1 : m ≤ 12) : m = 1 ∨ m = 2 ∨ m = 3 ∨ m = 4 ∨ m = 5 ∨ m = 6 ∨ m = 7 ∨ m = 8 ∨ m = 9 ∨ m = 10 ∨ m = 11 ∨ m = 12 := by omega
theorem cum_succ (y m : Int) (h0 : 1 ≤ m) (h1 : m ≤ 12) : cum y (m + 1) = cum y m + dim y m := by
  rcases months h0 h1 with rfl | rfl | rfl | rfl | rfl | rfl | rfl | rfl | rfl | rfl | rfl | rfl <;> simp [cum, dim] <;> omega
theorem cum_13 (y : Int) : cum y 13 = 365 + lpy y := by simp [cum]; omega
theorem cum_range (y m : Int) : 0 ≤ cum y m ∧ cum y m ≤ 366 := by
  have := lpy_01 y
  unfold cum; (repeat' split) <;> omega
theorem yrs_succ (y : Int) : yrs (y + 1) = yrs y + 365 + lpy y := by unfold yrs lpy; split <;> omega
theorem yrs_1950 : yrs 1950 = 0 := by decide
theorem l9Days_eq (y m : Int) (hy : 0 ≤ y) (h0 : 1 ≤ m) (h1 : m ≤ 12) : spec_l9Days.f y m = some (dim y m) := by
  rcases months h0 h1 with rfl | rfl | rfl | rfl | rfl | rfl | rfl | rfl | rfl | rfl | rfl | rfl <;> simp [spec_l9Days.f, rd, dim]
  rw [Int.tmod_eq_emod_of_nonneg hy]
  unfold lpy; split <;> simp [wrap64]
theorem l9Year_eq (y : Int) (hy : 0 ≤ y) : spec_l9Year.f y = some (365 + lpy y) := by
  unfold spec_l9Year.f lpy
  rw [Int.tmod_eq_emod_of_nonneg hy]; split <;> simp
theorem daysIn_ev (y m : Int) (hy : 0 ≤ y) (h0 : 1 ≤ m) (h1 : m ≤ 12) : Ev (fun k => impl_daysIn.f k y m) (dim y m) := by
  refine ⟨1, fun k hk => ?_⟩
  obtain ⟨k, rfl⟩ : ∃ n, k = n + 1 := ⟨k - 1, by omega⟩
  rcases months h0 h1 with rfl | rfl | rfl | rfl | rfl | rfl | rfl | rfl | rfl | rfl | rfl | rfl <;> simp [impl_daysIn.f, impl_daysIn.j0, dim]
  rw [Int.tmod_eq_emod_of_nonneg hy]
  unfold lpy; split <;> simp
theorem daysOf_ev (y : Int) (hy : 0 ≤ y) : Ev (fun k => impl_daysOf.f k y) (365 + lpy y) := by
  have h := daysIn_ev y 2 hy (by omega) (by omega)
  refine Ev.bind h ?_
  have := lpy_01 y
  rw [show wrap64 (337 + dim y 2) = 365 + lpy y by unfold wrap64; simp [dim]; omega]
  exact Ev.now _
/-! ### DayOf -/
def inTime (t : Int) : Prop := -631152000 ≤ t ∧ t ≤ 4102444799
/-- day n of a year is this one of this month, and both programs' loops over months find it -/
theorem months_both (y s : Int) (hy : 0 ≤ y) : ∀ (n : Nat) (i x : Int), 1 ≤ i → i + n = 12 → 0 ≤ x → cum y i + x < 365 + lpy y →
    ∃ m d, (1 ≤ m ∧ m ≤ 12) ∧ (1 ≤ d ∧ d ≤ dim y m) ∧ cum y m + d - 1 = cum y i + x ∧ Ev (fun k => spec_DayOf.l1 k x s y i) (y, m, d, s) ∧ Ev (fun k => impl_DayOf.l1 k x s y i) (y, m, d, s) := by
  have hl := lpy_01 y
  intro n
  induction n with
  | zero =>
    intro i x hi hn hx hlt
    obtain rfl : i = 12 := by omega
    have h13 : cum y 12 + dim y 12 = 365 + lpy y := by rw [← cum_succ y 12 (by omega) (by omega)]; exact cum_13 y
    have hc : ¬ x ≥ dim y 12 := by omega
    have hr := cum_range y 12
    have e : wrap64 (x + 1) = x + 1 := w64 (by omega) (by omega)
    refine ⟨12, x + 1, by omega, by omega, by omega, ?_, ?_⟩
    · refine Ev.step (fun k => spec_DayOf.l1.eq_2 _ _ _ _ _) (ev_bindc (l9Days_eq y 12 hy (by omega) (by omega)) (ev_neg hc ?_))
      rw [e]; exact Ev.now _
    · refine Ev.step (fun k => impl_DayOf.l1.eq_2 _ _ _ _ _) (Ev.bind (daysIn_ev y 12 hy (by omega) (by omega)) (ev_neg hc ?_))
      rw [e]; exact Ev.now _
  | succ n ih =>
    intro i x hi hn hx hlt
    have hs := cum_succ y i hi (by omega)
    have hr := cum_range y i
    have hdr := dim_range y i
    by_cases hc : x ≥ dim y i
    · obtain ⟨m, d, h1, h2, h3, h4, h5⟩ := ih (i + 1) (x - dim y i) (by omega) (by omega) (by omega) (by omega)
      refine ⟨m, d, h1, h2, by omega, ?_, ?_⟩
      · refine Ev.step (fun k => spec_DayOf.l1.eq_2 _ _ _ _ _) (ev_bindc (l9Days_eq y i hy (by omega) (by omega)) (ev_pos hc (ev_bindc (l9Days_eq y i hy (by omega) (by omega)) ?_)))
        rw [w64 (by omega) (by omega), w64 (by omega) (by omega)]; exact h4
      · refine Ev.step (fun k => impl_DayOf.l1.eq_2 _ _ _ _ _) (Ev.bind (daysIn_ev y i hy (by omega) (by omega)) (ev_pos hc (Ev.bind (daysIn_ev y i hy (by omega) (by omega)) ?_)))
        rw [w64 (by omega) (by omega), w64 (by omega) (by omega)]; exact h5
    · have e : wrap64 (x + 1) = x + 1 := w64 (by omega) (by omega)
      refine ⟨i, x + 1, by omega, by omega, by omega, ?_, ?_⟩
      · refine Ev.step (fun k => spec_DayOf.l1.eq_2 _ _ _ _ _) (ev_bindc (l9Days_eq y i hy (by omega) (by omega)) (ev_neg hc ?_))
        rw [e]; exact Ev.now _
      · refine Ev.step (fun k => impl_DayOf.l1.eq_2 _ _ _ _ _) (Ev.bind (daysIn_ev y i hy (by omega) (by omega)) (ev_neg hc ?_))
        rw [e]; exact Ev.now _
theorem years_both (s : Int) : ∀ (n : Nat) (i x : Int), 1950 ≤ i → i + n = 2099 → 0 ≤ x → yrs i + x < yrs 2100 →
    ∃ y m d, (1950 ≤ y ∧ y ≤ 2099) ∧ (1 ≤ m ∧ m ≤ 12) ∧ (1 ≤ d ∧ d ≤ dim y m) ∧ yrs y + cum y m + d - 1 = yrs i + x ∧ Ev (fun k => spec_DayOf.l0 k x s i) (y, m, d, s) ∧ Ev (fun k => impl_DayOf.l0 k x s i 1) (y, m, d, s) := by
  have stay : ∀ i x : Int, 1950 ≤ i → i ≤ 2099 → 0 ≤ x → ¬ x ≥ 365 + lpy i → ∃ y m d, (1950 ≤ y ∧ y ≤ 2099) ∧ (1 ≤ m ∧ m ≤ 12) ∧ (1 ≤ d ∧ d ≤ dim y m) ∧ yrs y + cum y m + d - 1 = yrs i + x ∧ Ev (fun k => spec_DayOf.l0 k x s i) (y, m, d, s) ∧ Ev (fun k => impl_DayOf.l0 k x s i 1) (y, m, d, s) := by
    intro i x h0 h1 hx hc
    have c1 : cum i 1 = 0 := by simp [cum]
    obtain ⟨m, d, g1, g2, g3, g4, g5⟩ := months_both i s (by omega) 11 1 x (by omega) (by omega) hx (by omega)
    exact ⟨i, m, d, ⟨h0, h1⟩, g1, g2, by omega,
      Ev.step (fun k => spec_DayOf.l0.eq_2 _ _ _ _) (ev_bindc (l9Year_eq i (by omega)) (ev_neg hc g4)),
      Ev.step (fun k => impl_DayOf.l0.eq_2 _ _ _ _ _) (Ev.bind (daysOf_ev i (by omega)) (ev_neg hc g5))⟩
  intro n
  induction n with
  | zero =>
    intro i x hi hn hx hlt
    obtain rfl : i = 2099 := by omega
    have := yrs_succ 2099
    have e21 : yrs (2099 + 1) = yrs 2100 := rfl
    exact stay 2099 x (by omega) (by omega) hx (by omega)
  | succ n ih =>
    intro i x hi hn hx hlt
    have hys := yrs_succ i
    have hl := lpy_01 i
    have hyr : 0 ≤ yrs i ∧ yrs 2100 ≤ 60000 := by unfold yrs; omega
    by_cases hc : x ≥ 365 + lpy i
    · obtain ⟨y, m, d, h1, h2, h3, h4, h5, h6⟩ := ih (i + 1) (x - (365 + lpy i)) (by omega) (by omega) (by omega) (by omega)
      refine ⟨y, m, d, h1, h2, h3, by omega, ?_, ?_⟩
      · refine Ev.step (fun k => spec_DayOf.l0.eq_2 _ _ _ _) (ev_bindc (l9Year_eq i (by omega)) (ev_pos hc (ev_bindc (l9Year_eq i (by omega)) ?_)))
        rw [w64 (by omega) (by omega), w64 (by omega) (by omega)]; exact h5
      · refine Ev.step (fun k => impl_DayOf.l0.eq_2 _ _ _ _ _) (Ev.bind (daysOf_ev i (by omega)) (ev_pos hc (Ev.bind (daysOf_ev i (by omega)) ?_)))
        rw [w64 (by omega) (by omega), w64 (by omega) (by omega)]; exact h6
    · exact stay i x hi (by omega) hx hc
theorem l9Ok_eq (t : Int) : spec_l9Ok.f t = some (decide (-631152000 ≤ t ∧ t ≤ 4102444799)) := by unfold spec_l9Ok.f; rw [l1In_eq]; rfl
theorem isTime_eq (t : Int) : impl_isTime.f t = some (decide (-631152000 ≤ t ∧ t ≤ 4102444799)) := l9Ok_eq t
theorem dayOf_both (t : Int) (h : inTime t) : ∃ y m d s, (1950 ≤ y ∧ y ≤ 2099) ∧ (1 ≤ m ∧ m ≤ 12) ∧ (1 ≤ d ∧ d ≤ dim y m) ∧ (0 ≤ s ∧ s ≤ 86399) ∧ t = -631152000 + (yrs y + cum y m + d - 1) * 86400 + s ∧
    Ev (fun k => spec_DayOf.f k t) (y, m, d, s) ∧ Ev (fun k => impl_DayOf.f k t) (y, m, d, s) := by
  unfold inTime at h
  have e1 : wrap64 (t - -631152000) = t + 631152000 := by rw [w64 (by omega) (by omega)]; omega
  have e2 : Int.tdiv (t + 631152000) 86400 = (t + 631152000) / 86400 := Int.tdiv_eq_ediv_of_nonneg (by omega)
  have e3 : Int.tmod (t + 631152000) 86400 = (t + 631152000) % 86400 := Int.tmod_eq_emod_of_nonneg (by omega)
  have e4 : wrap64 ((t + 631152000) / 86400) = (t + 631152000) / 86400 := w64 (by omega) (by omega)
  have y21 : yrs 2100 = 54787 := by decide
  obtain ⟨y, m, d, h1, h2, h3, h4, h5, h6⟩ := years_both ((t + 631152000) % 86400) 149 1950 ((t + 631152000) / 86400) (by omega) (by omega) (by omega) (by rw [yrs_1950]; omega)
  rw [yrs_1950] at h4
  refine ⟨y, m, d, (t + 631152000) % 86400, h1, h2, h3, by omega, by omega, ?_, ?_⟩
  · refine ev_bindc (l9Ok_eq t) (ev_pos (by simp [h]) ?_)
    rw [e1, e2, e3, e4]; exact h5
  · refine ev_bindc (isTime_eq t) (ev_pos (by simp [h]) ?_)
    rw [e1, e2, e3, e4]; exact h6
theorem spec_dayNo (t : Int) (h : ¬ inTime t) : Ev (fun k => spec_DayOf.f k t) (0, 0, 0, 0) :=
  ev_bindc (l9Ok_eq t) (ev_neg (by rw [decide_eq_false (show ¬ (-631152000 ≤ t ∧ t ≤ 4102444799) from h)]; simp) (Ev.now _))
theorem impl_dayNo (t : Int) (h : ¬ inTime t) : Ev (fun k => impl_DayOf.f k t) (0, 0, 0, 0) :=
  ev_bindc (isTime_eq t) (ev_neg (by rw [decide_eq_false (show ¬ (-631152000 ≤ t ∧ t ≤ 4102444799) from h)]; simp) (Ev.now _))
/-! ### texts of times -/
theorem two_some (n : Int) : ∃ t, spec_l9Two.f n = some t ∧ impl_twoDigits.f n = some t ∧ t.size = 2 := ⟨_, rfl, rfl, by rw [strOfNums_size]; rfl⟩
theorem rest_some (m d s : Int) : ∃ t, spec_l9Rest.f m d s = some t ∧ impl_timeText.f m d s = some t ∧ t.size = 11 := by
  have e : impl_timeText.f m d s = spec_l9Rest.f m d s := rfl
  obtain ⟨t1, h1, _, l1⟩ := two_some m
  obtain ⟨t2, h2, _, l2⟩ := two_some d
  obtain ⟨t3, h3, _, l3⟩ := two_some (wrap64 (Int.tdiv s 3600))
  obtain ⟨t4, h4, _, l4⟩ := two_some (Int.tmod (wrap64 (Int.tdiv s 60)) 60)
  obtain ⟨t5, h5, _, l5⟩ := two_some (Int.tmod s 60)
  have h : spec_l9Rest.f m d s = some (((((t1 ++ t2) ++ t3) ++ t4) ++ t5) ++ (⟨#[90]⟩ : ByteArray)) := by
    unfold spec_l9Rest.f
    rw [h1, h2, h3, h4, h5]
    simp [ByteArray.size_append, l1, l2, l3, l4, l5]
  refine ⟨_, h, e.trans h, ?_⟩
  simp [ByteArray.size_append, l1, l2, l3, l4, l5]; rfl
theorem FnExactShortTime : laws_FnExactShortTime.Pure := by
  intro t _
  by_cases h : inTime t
  · obtain ⟨y, m, d, s, hy, _, _, _, _, h1, h2⟩ := dayOf_both t h
    obtain ⟨t2, e2, e2', l2⟩ := two_some y
    obtain ⟨t3, e3, e3', l3⟩ := rest_some m d s
    by_cases c : 1950 ≤ y ∧ y ≤ 2049
    · have g1 : Ev (fun k => spec_ShortTime.f k t) (t2 ++ t3, true) :=
        Ev.bind h1 (ev_bindc (l1In_eq _ _ _) (ev_pos (by simp [c]) (ev_bindc e2 (ev_bindc e3 (ev_pos (by omega) (Ev.now _))))))
      have g2 : Ev (fun k => impl_ShortTime.f k t) (t2 ++ t3, true) :=
        Ev.bind h2 (ev_bindc (within_eq _ _ _) (ev_pos (by simp [c]) (ev_bindc e2' (ev_bindc e3' (ev_pos (by omega) (Ev.now _))))))
      exact ev_k (Ev.bind g1 (Ev.bind g2 (ev_pos rfl (ev_neg (by simp) (Ev.now _)))))
    · have g1 : Ev (fun k => spec_ShortTime.f k t) _ := Ev.bind h1 (ev_bindc (l1In_eq _ _ _) (ev_neg (by simpa using c) (Ev.now _)))
      have g2 : Ev (fun k => impl_ShortTime.f k t) _ := Ev.bind h2 (ev_bindc (within_eq _ _ _) (ev_neg (by simpa using c) (Ev.now _)))
      exact ev_k (Ev.bind g1 (Ev.bind g2 (ev_pos rfl (ev_neg (by simp) (Ev.now _)))))
  · have g1 : Ev (fun k => spec_ShortTime.f k t) _ := Ev.bind (spec_dayNo t h) (ev_bindc (l1In_eq _ _ _) (ev_neg (by simp) (Ev.now _)))
    have g2 : Ev (fun k => impl_ShortTime.f k t) _ := Ev.bind (impl_dayNo t h) (ev_bindc (within_eq _ _ _) (ev_neg (by simp) (Ev.now _)))
    exact ev_k (Ev.bind g1 (Ev.bind g2 (ev_pos rfl (ev_neg (by simp) (Ev.now _)))))

end Go.Proofs.Ytdnijphfamnnoaa.Pure
