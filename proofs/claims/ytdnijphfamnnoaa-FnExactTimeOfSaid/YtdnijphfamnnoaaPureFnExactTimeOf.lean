/- The program's TimeOf returns what the reference's returns, for all arguments (no condition). -/
import Derived.Test.YtdnijphfamnnoaaPFnExactTimeOfx2
import Derived.Test.YtdnijphfamnnoaaBase
namespace Go.Proofs.Ytdnijphfamnnoaa.Pure
open Go.RowKit Go.Proofs.Ytdnijphfamnnoaa.PFnExactTimeOf Go.Proofs.YtdnijphfamnnoaaW.PrintWords Go.Proofs.YtdnijphfamnnoaaW.PrintLast Go.Proofs.Ytdnijphfamnnoaa.Base
set_option linter.unusedVariables false

theorem l1In_eq (x a b : Int) : spec_l1In.f x a b = some (decide (a ≤ x ∧ x ≤ b)) := by
  unfold spec_l1In.f
  by_cases h : x ≥ a
  · rw [if_pos h]; simp [show a ≤ x from h]
  · rw [if_neg h]; simp [show ¬ a ≤ x from h]
theorem within_eq (x a b : Int) : impl_within.f x a b = some (decide (a ≤ x ∧ x ≤ b)) := l1In_eq x a b
/-! ### days of months and years -/
def lpy (y : Int) : Int := if y % 4 = 0 then 1 else 0
theorem lpy_01 (y : Int) : 0 ≤ lpy y ∧ lpy y ≤ 1 := by unfold lpy; split <;> omega
def dim (y m : Int) : Int := if m = 2 then 28 + lpy y else if m = 4 ∨ m = 6 ∨ m = 9 ∨ m = 11 then 30 else 31
theorem dim_range (y m : Int) : 28 ≤ dim y m ∧ dim y m ≤ 31 := by
  have := lpy_01 y
  unfold dim; split
  · omega
  · split <;> omega
/-- the days of a year ahead of a month -/
def cum (y m : Int) : Int :=
  if m ≤ 1 then 0 else if m = 2 then 31 else lpy y + (if m = 3 then 59 else if m = 4 then 90 else if m = 5 then 120 else if m = 6 then 151 else if m = 7 then 181
    else if m = 8 then 212 else if m = 9 then 243 else if m = 10 then 273 else if m = 11 then 304 else if m = 12 then 334 else 365)
/-- the days from 1950 on to a year -/
def yrs (y : Int) : Int := 365 * (y - 1950) + ((y + 3) / 4 - 488)
theorem months {m : Int} (h0 : 1 ≤ m) (h1 : m ≤ 12) : m = 1 ∨ m = 2 ∨ m = 3 ∨ m = 4 ∨ m = 5 ∨ m = 6 ∨ m = 7 ∨ m = 8 ∨ m = 9 ∨ m = 10 ∨ m = 11 ∨ m = 12 := by omega
theorem cum_succ (y m : Int) (h0 : 1 ≤ m) (h1 : m ≤ 12) : cum y (m + 1) = cum y m + dim y m := by
  rcases months h0 h1 with rfl | rfl | rfl | rfl | rfl | rfl | rfl | rfl | rfl | rfl | rfl | rfl <;> simp [cum, dim] <;> omega
theorem cum_13 (y : Int) : cum y 13 = 365 + lpy y := by simp [cum]; omega
theorem cum_range (y m : Int) : 0 ≤ cum y m ∧ cum y m ≤ 366 := by
  have := lpy_01 y
  unfold cum; (repeat' split) <;> omega
theorem yrs_succ (y : Int) : yrs (y + 1) = yrs y + 365 + lpy y := by unfold yrs lpy; split <;> omega
theorem yrs_1950 : yrs 1950 = 0 := by decide
theorem l9Days_eq (y m : Int) (hy : 0 ≤ y) (h0 : 1 ≤ m) (h1 : m ≤ 12) : spec_l9Days.f y m = some (dim y m) := by
  rcases months h0 h1 with rfl | rfl | rfl | rfl | rfl | rfl | rfl | rfl | rfl | rfl | rfl | rfl <;> simp [spec_l9Days.f, rd, dim]
  rw [Int.tmod_eq_emod_of_nonneg hy]
  unfold lpy; split <;> simp [wrap64]
theorem l9Year_eq (y : Int) (hy : 0 ≤ y) : spec_l9Year.f y = some (365 + lpy y) := by
  unfold spec_l9Year.f lpy
  rw [Int.tmod_eq_emod_of_nonneg hy]; split <;> simp
theorem daysIn_ev (y m : Int) (hy : 0 ≤ y) (h0 : 1 ≤ m) (h1 : m ≤ 12) : Ev (fun k => impl_daysIn.f k y m) (dim y m) := by
  refine ⟨1, fun k hk => ?_⟩
  obtain ⟨k, rfl⟩ : ∃ n, k = n + 1 := ⟨k - 1, by omega⟩
  rcases months h0 h1 with rfl | rfl | rfl | rfl | rfl | rfl | rfl | rfl | rfl | rfl | rfl | rfl <;> simp [impl_daysIn.f, impl_daysIn.j0, dim]
  rw [Int.tmod_eq_emod_of_nonneg hy]
  unfold lpy; split <;> simp
theorem daysOf_ev (y : Int) (hy : 0 ≤ y) : Ev (fun k => impl_daysOf.f k y) (365 + lpy y) := by
  have h := daysIn_ev y 2 hy (by omega) (by omega)
  refine Ev.bind h ?_
  have := lpy_01 y
  rw [show wrap64 (337 + dim y 2) = 365 + lpy y by unfold wrap64; simp [dim]; omega]
  exact Ev.now _
/-! ### TimeOf -/
def timeOk (y m d s : Int) : Prop := (1950 ≤ y ∧ y ≤ 2099) ∧ (1 ≤ m ∧ m ≤ 12) ∧ (1 ≤ d ∧ d ≤ dim y m) ∧ (0 ≤ s ∧ s ≤ 86399)
def timeAt (y m d s : Int) : Int := -631152000 + (yrs y + cum y m + d - 1) * 86400 + s
theorem spec_months (y m d s : Int) (h : timeOk y m d s) (b : Int) (hb0 : -100000 ≤ b) (hb1 : b ≤ 100000) : ∀ (n : Nat) (i : Int), 1 ≤ i → i + n = m → Ev (fun k => spec_TimeOf.l1 k y m d s (b + cum y i) i) ((b + cum y m + d - 1) * 86400 + s, true) := by
  obtain ⟨⟨hy0, hy1⟩, ⟨hm0, hm1⟩, ⟨hd0, hd1⟩, hs0, hs1⟩ := h
  have hdr := dim_range y m
  intro n
  induction n with
  | zero =>
    intro i hi hn
    obtain rfl : i = m := by omega
    have := cum_range y i
    refine Ev.step (fun k => spec_TimeOf.l1.eq_2 _ _ _ _ _ _ _) (ev_neg (by omega) ?_)
    rw [show wrap64 (wrap64 (wrap64 (wrap64 (b + cum y i + d) - 1) * 86400) + s) = (b + cum y i + d - 1) * 86400 + s by unfold wrap64; omega]
    exact Ev.now _
  | succ n ih =>
    intro i hi hn
    have := cum_range y i
    have := dim_range y i
    refine Ev.step (fun k => spec_TimeOf.l1.eq_2 _ _ _ _ _ _ _) (ev_pos (by omega) (ev_bindc (l9Days_eq y i (by omega) hi (by omega)) ?_))
    rw [w64 (by omega) (by omega), w64 (by omega) (by omega), show b + cum y i + dim y i = b + cum y (i + 1) by rw [cum_succ y i hi (by omega)]; omega]
    exact ih (i + 1) (by omega) (by omega)
theorem spec_years (y m d s : Int) (h : timeOk y m d s) : ∀ (n : Nat) (i : Int), 1950 ≤ i → i + n = y → Ev (fun k => spec_TimeOf.l0 k y m d s (-7305 + yrs i) i) (timeAt y m d s, true) := by
  have h' := h
  obtain ⟨⟨hy0, hy1⟩, ⟨hm0, hm1⟩, ⟨hd0, hd1⟩, hs0, hs1⟩ := h'
  intro n
  induction n with
  | zero =>
    intro i hi hn
    obtain rfl : i = y := by omega
    have hyr : 0 ≤ yrs i ∧ yrs i ≤ 60000 := by unfold yrs; omega
    refine Ev.step (fun k => spec_TimeOf.l0.eq_2 _ _ _ _ _ _ _) (ev_neg (by omega) ?_)
    have := spec_months i m d s h (-7305 + yrs i) (by omega) (by omega) (m - 1).toNat 1 (by omega) (by omega)
    rw [show (-7305 + yrs i + cum i 1) = -7305 + yrs i by simp [cum]] at this
    rw [show timeAt i m d s = (-7305 + yrs i + cum i m + d - 1) * 86400 + s by unfold timeAt; omega]
    exact this
  | succ n ih =>
    intro i hi hn
    have hyr : 0 ≤ yrs i ∧ yrs i ≤ 60000 := by unfold yrs; omega
    have := lpy_01 i
    refine Ev.step (fun k => spec_TimeOf.l0.eq_2 _ _ _ _ _ _ _) (ev_pos (by omega) (ev_bindc (l9Year_eq i (by omega)) ?_))
    rw [w64 (by omega) (by omega), w64 (by omega) (by omega), show -7305 + yrs i + (365 + lpy i) = -7305 + yrs (i + 1) by rw [yrs_succ]; omega]
    exact ih (i + 1) (by omega) (by omega)
theorem impl_months (y m d s : Int) (h : timeOk y m d s) (b : Int) (hb0 : -100000 ≤ b) (hb1 : b ≤ 100000) : ∀ (n : Nat) (i : Int), 1 ≤ i → i + n = m → Ev (fun k => impl_TimeOf.l1 k y m s (b + cum y i) i) (-631152000 + (b + cum y m) * 86400 + s, true) := by
  obtain ⟨⟨hy0, hy1⟩, ⟨hm0, hm1⟩, ⟨hd0, hd1⟩, hs0, hs1⟩ := h
  intro n
  induction n with
  | zero =>
    intro i hi hn
    obtain rfl : i = m := by omega
    have := cum_range y i
    refine Ev.step (fun k => impl_TimeOf.l1.eq_2 _ _ _ _ _ _) (ev_neg (by omega) ?_)
    rw [show wrap64 (wrap64 (-631152000 + wrap64 ((b + cum y i) * 86400)) + s) = -631152000 + (b + cum y i) * 86400 + s by unfold wrap64; omega]
    exact Ev.now _
  | succ n ih =>
    intro i hi hn
    have := cum_range y i
    have := dim_range y i
    refine Ev.step (fun k => impl_TimeOf.l1.eq_2 _ _ _ _ _ _) (ev_pos (by omega) (Ev.bind (daysIn_ev y i (by omega) hi (by omega)) ?_))
    rw [w64 (by omega) (by omega), w64 (by omega) (by omega), show b + cum y i + dim y i = b + cum y (i + 1) by rw [cum_succ y i hi (by omega)]; omega]
    exact ih (i + 1) (by omega) (by omega)
theorem impl_years (y m d s : Int) (h : timeOk y m d s) : ∀ (n : Nat) (i : Int), 1950 ≤ i → i + n = y → Ev (fun k => impl_TimeOf.l0 k y m s (d - 1 + yrs i) i) (timeAt y m d s, true) := by
  have h' := h
  obtain ⟨⟨hy0, hy1⟩, ⟨hm0, hm1⟩, ⟨hd0, hd1⟩, hs0, hs1⟩ := h'
  have hdr := dim_range y m
  intro n
  induction n with
  | zero =>
    intro i hi hn
    obtain rfl : i = y := by omega
    have hyr : 0 ≤ yrs i ∧ yrs i ≤ 60000 := by unfold yrs; omega
    refine Ev.step (fun k => impl_TimeOf.l0.eq_2 _ _ _ _ _ _) (ev_neg (by omega) ?_)
    have := impl_months i m d s h (d - 1 + yrs i) (by omega) (by omega) (m - 1).toNat 1 (by omega) (by omega)
    rw [show (d - 1 + yrs i + cum i 1) = d - 1 + yrs i by simp [cum]] at this
    rw [show timeAt i m d s = -631152000 + (d - 1 + yrs i + cum i m) * 86400 + s by unfold timeAt; omega]
    exact this
  | succ n ih =>
    intro i hi hn
    have hyr : 0 ≤ yrs i ∧ yrs i ≤ 60000 := by unfold yrs; omega
    have := lpy_01 i
    refine Ev.step (fun k => impl_TimeOf.l0.eq_2 _ _ _ _ _ _) (ev_pos (by omega) (Ev.bind (daysOf_ev i (by omega)) ?_))
    rw [w64 (by omega) (by omega), w64 (by omega) (by omega), show d - 1 + yrs i + (365 + lpy i) = d - 1 + yrs (i + 1) by rw [yrs_succ]; omega]
    exact ih (i + 1) (by omega) (by omega)

theorem spec_timeOf (y m d s : Int) (h : timeOk y m d s) : Ev (fun k => spec_TimeOf.f k y m d s) (timeAt y m d s, true) := by
  have h' := h
  obtain ⟨h1, h2, h3, h4⟩ := h'
  refine ev_bindc (l1In_eq _ _ _) (ev_pos (by simp [h1]) (ev_bindc (l1In_eq _ _ _) (ev_pos (by simp [h2]) (ev_bindc (l9Days_eq y m (by omega) h2.1 h2.2) (ev_bindc (l1In_eq _ _ _) (ev_pos (by simp [h3]) (ev_bindc (l1In_eq _ _ _) ?_)))))))
  rw [decide_eq_true h4]
  refine Ev.step (fun k => spec_TimeOf.j0.eq_2 _ _ _ _ _ _) (ev_neg (by simp) ?_)
  exact spec_years y m d s h (y - 1950).toNat 1950 (by omega) (by omega)
theorem impl_timeOf (y m d s : Int) (h : timeOk y m d s) : Ev (fun k => impl_TimeOf.f k y m d s) (timeAt y m d s, true) := by
  have h' := h
  obtain ⟨h1, h2, h3, h4⟩ := h'
  refine ev_bindc (within_eq _ _ _) (ev_pos (by simp [h1]) (ev_bindc (within_eq _ _ _) (ev_pos (by simp [h2]) (Ev.bind (daysIn_ev y m (by omega) h2.1 h2.2) (ev_bindc (within_eq _ _ _) (ev_pos (by simp [h3]) (ev_bindc (within_eq _ _ _) ?_)))))))
  rw [decide_eq_true h4]
  refine Ev.step (fun k => impl_TimeOf.j0.eq_2 _ _ _ _ _ _) (ev_neg (by simp) ?_)
  have hdr := dim_range y m
  rw [w64 (by omega) (by omega)]
  have := impl_years y m d s h (y - 1950).toNat 1950 (by omega) (by omega)
  rw [yrs_1950] at this
  simpa using this
theorem spec_timeNo (y m d s : Int) (h : ¬ timeOk y m d s) : Ev (fun k => spec_TimeOf.f k y m d s) (0, false) := by
  have no : Ev (fun k => spec_TimeOf.j0 k y m d s true) (0, false) := Ev.step (fun k => spec_TimeOf.j0.eq_2 _ _ _ _ _ _) (ev_pos rfl (Ev.now _))
  refine ev_bindc (l1In_eq _ _ _) ?_
  by_cases h1 : 1950 ≤ y ∧ y ≤ 2099
  · refine ev_pos (by simp [h1]) (ev_bindc (l1In_eq _ _ _) ?_)
    by_cases h2 : 1 ≤ m ∧ m ≤ 12
    · refine ev_pos (by simp [h2]) (ev_bindc (l9Days_eq y m (by omega) h2.1 h2.2) (ev_bindc (l1In_eq _ _ _) ?_))
      by_cases h3 : 1 ≤ d ∧ d ≤ dim y m
      · refine ev_pos (by simp [h3]) (ev_bindc (l1In_eq _ _ _) ?_)
        rw [decide_eq_false (fun h4 => h ⟨h1, h2, h3, h4⟩)]
        exact no
      · exact ev_neg (by rw [decide_eq_false h3]; simp) no
    · exact ev_neg (by rw [decide_eq_false h2]; simp) no
  · exact ev_neg (by rw [decide_eq_false h1]; simp) no
theorem impl_timeNo (y m d s : Int) (h : ¬ timeOk y m d s) : Ev (fun k => impl_TimeOf.f k y m d s) (0, false) := by
  have no : Ev (fun k => impl_TimeOf.j0 k y m d s true) (0, false) := Ev.step (fun k => impl_TimeOf.j0.eq_2 _ _ _ _ _ _) (ev_pos rfl (Ev.now _))
  refine ev_bindc (within_eq _ _ _) ?_
  by_cases h1 : 1950 ≤ y ∧ y ≤ 2099
  · refine ev_pos (by simp [h1]) (ev_bindc (within_eq _ _ _) ?_)
    by_cases h2 : 1 ≤ m ∧ m ≤ 12
    · refine ev_pos (by simp [h2]) (Ev.bind (daysIn_ev y m (by omega) h2.1 h2.2) (ev_bindc (within_eq _ _ _) ?_))
      by_cases h3 : 1 ≤ d ∧ d ≤ dim y m
      · refine ev_pos (by simp [h3]) (ev_bindc (within_eq _ _ _) ?_)
        rw [decide_eq_false (fun h4 => h ⟨h1, h2, h3, h4⟩)]
        exact no
      · exact ev_neg (by rw [decide_eq_false h3]; simp) no
    · exact ev_neg (by rw [decide_eq_false h2]; simp) no
  · exact ev_neg (by rw [decide_eq_false h1]; simp) no
theorem FnExactTimeOf : laws_FnExactTimeOf.Pure := by
  intro y m d s _ _ _ _
  by_cases h : timeOk y m d s
  · exact ev_k (Ev.bind (spec_timeOf y m d s h) (Ev.bind (impl_timeOf y m d s h) (ev_pos rfl (ev_neg (by simp) (Ev.now _)))))
  · exact ev_k (Ev.bind (spec_timeNo y m d s h) (Ev.bind (impl_timeNo y m d s h) (ev_pos rfl (ev_neg (by simp) (Ev.now _)))))

end Go.Proofs.Ytdnijphfamnnoaa.Pure
