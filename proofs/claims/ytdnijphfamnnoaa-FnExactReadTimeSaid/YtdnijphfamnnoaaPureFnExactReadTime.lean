/- The program's ReadTime returns what the reference's returns, for all arguments that the law lets in. -/
import Derived.Test.YtdnijphfamnnoaaGFnExactReadTimex5
import Derived.Test.YtdnijphfamnnoaaBase
namespace Go.Proofs.Ytdnijphfamnnoaa.Pure
open Go.RowKit Go.Proofs.Ytdnijphfamnnoaa.GFnExactReadTime Go.Proofs.YtdnijphfamnnoaaW.PrintWords Go.Proofs.YtdnijphfamnnoaaW.PrintLast Go.Proofs.Ytdnijphfamnnoaa.Base
set_option linter.unusedVariables false
set_option linter.unusedSimpArgs false

theorem l1In_eq (x a b : Int) : spec_l1In.f x a b = some (decide (a ≤ x ∧ x ≤ b)) := by
  unfold spec_l1In.f
  by_cases h : x ≥ a
  · rw [if_pos h]; simp [show a ≤ x from h]
  · rw [if_neg h]; simp [show ¬ a ≤ x from h]
theorem within_eq (x a b : Int) : impl_within.f x a b = some (decide (a ≤ x ∧ x ≤ b)) := l1In_eq x a b
/-! ### days of months and years -/
def lpy (y : Int) : Int := if y % 4 = 0 then 1 else 0
theorem lpy_01 (y : Int) : 0 ≤ lpy y ∧ lpy y ≤ 1 := by unfold lpy; split <;> omega
def dim (y m : Int) : Int := if m = 2 then 28 + lpy y else if m = 4 ∨ m = 6 ∨ m = 9 ∨ m = 11 then 30 else 31
theorem dim_range (y m : Int) : 28 ≤ dim y m ∧ dim y m ≤ 31 := by
  have := lpy_01 y
  unfold dim; split
  · omega
  · split <;> omega
/-- the days of a year ahead of a month -/
def cum (y m : Int) : Int :=
  if m ≤ 1 then 0 else if m = 2 then 31 else lpy y + (if m = 3 then 59 else if m = 4 then 90 else if m = 5 then 120 else if m = 6 then 151 else if m = 7 then 181
    else if m = 8 then 212 else if m = 9 then 243 else if m = 10 then 273 else if m = 11 then 304 else if m = 12 then 334 else 365)
/-- the days from 1950 on to a year -/
def yrs (y : Int) : Int := 365 * (y - 1950) + ((y + 3) / 4 - 488)
theorem months {m : Int} (h0 : 1 ≤ m) (h1 : m ≤ 12) : m = 1 ∨ m = 2 ∨ m = 3 ∨ m = 4 ∨ m = 5 ∨ m = 6 ∨ m = 7 ∨ m = 8 ∨ m = 9 ∨ m = 10 ∨ m = 11 ∨ m = 12 := by omega
theorem cum_succ (y m : Int) (h0 : 1 ≤ m) (h1 : m ≤ 12) : cum y (m + 1) = cum y m + dim y m := by
  rcases months h0 h1 with rfl | rfl | rfl | rfl | rfl | rfl | rfl | rfl | rfl | rfl | rfl | rfl <;> simp [cum, dim] <;> omega
theorem cum_13 (y : Int) : cum y 13 = 365 + lpy y := by simp [cum]; omega
theorem cum_range (y m : Int) : 0 ≤ cum y m ∧ cum y m ≤ 366 := by
  have := lpy_01 y
  unfold cum; (repeat' split) <;> omega
theorem yrs_succ (y : Int) : yrs (y + 1) = yrs y + 365 + lpy y := by unfold yrs lpy; split <;> omega
theorem yrs_1950 : yrs 1950 = 0 := by decide
theorem l9Days_eq (y m : Int) (hy : 0 ≤ y) (h0 : 1 ≤ m) (h1 : m ≤ 12) : spec_l9Days.f y m = some (dim y m) := by
  rcases months h0 h1 with rfl | rfl | rfl | rfl | rfl | rfl | rfl | rfl | rfl | rfl | rfl | rfl <;> simp [spec_l9Days.f, rd, dim]
  rw [Int.tmod_eq_emod_of_nonneg hy]
  unfold lpy; split <;> simp [wrap64]
theorem l9Year_eq (y : Int) (hy : 0 ≤ y) : spec_l9Year.f y = some (365 + lpy y) := by
  unfold spec_l9Year.f lpy
  rw [Int.tmod_eq_emod_of_nonneg hy]; split <;> simp
theorem daysIn_ev (y m : Int) (hy : 0 ≤ y) (h0 : 1 ≤ m) (h1 : m ≤ 12) : Ev (fun k => impl_daysIn.f k y m) (dim y m) := by
  refine ⟨1, fun k hk => ?_⟩
  obtain ⟨k, rfl⟩ : ∃ n, k = n + 1 := ⟨k - 1, by omega⟩
  rcases months h0 h1 with rfl | rfl | rfl | rfl | rfl | rfl | rfl | rfl | rfl | rfl | rfl | rfl <;> simp [impl_daysIn.f, impl_daysIn.j0, dim]
  rw [Int.tmod_eq_emod_of_nonneg hy]
  unfold lpy; split <;> simp
theorem daysOf_ev (y : Int) (hy : 0 ≤ y) : Ev (fun k => impl_daysOf.f k y) (365 + lpy y) := by
  have h := daysIn_ev y 2 hy (by omega) (by omega)
  refine Ev.bind h ?_
  have := lpy_01 y
  rw [show wrap64 (337 + dim y 2) = 365 + lpy y by unfold wrap64; simp [dim]; omega]
  exact Ev.now _
/-! ### TimeOf -/
def timeOk (y m d s : Int) : Prop := (1950 ≤ y ∧ y ≤ 2099) ∧ (1 ≤ m ∧ m ≤ 12) ∧ (1 ≤ d ∧ d ≤ dim y m) ∧ (0 ≤ s ∧ s ≤ 86399)
def timeAt (y m d s : Int) : Int := -631152000 + (yrs y + cum y m + d - 1) * 86400 + s
theorem spec_months (y m d s : Int) (h : timeOk y m d s) (b : Int) (hb0 : -100000 ≤ b) (hb1 : b ≤ 100000) : ∀ (n : Nat) (i : Int), 1 ≤ i → i + n = m → Ev (fun k => spec_TimeOf.l1 k y m d s (b + cum y i) i) ((b + cum y m + d - 1) * 86400 + s, true) := by
  obtain ⟨⟨hy0, hy1⟩, ⟨hm0, hm1⟩, ⟨hd0, hd1⟩, hs0, hs1⟩ := h
  have hdr := dim_range y m
  intro n
  induction n with
  | zero =>
    intro i hi hn
    obtain rfl : i = m := by omega
    have := cum_range y i
    refine Ev.step (fun k => spec_TimeOf.l1.eq_2 _ _ _ _ _ _ _) (ev_neg (by omega) ?_)
    rw [show wrap64 (wrap64 (wrap64 (wrap64 (b + cum y i + d) - 1) * 86400) + s) = (b + cum y i + d - 1) * 86400 + s by unfold wrap64; omega]
    exact Ev.now _
  | succ n ih =>
    intro i hi hn
    have := cum_range y i
    have := dim_range y i
    refine Ev.step (fun k => spec_TimeOf.l1.eq_2 _ _ _ _ _ _ _) (ev_pos (by omega) (ev_bindc (l9Days_eq y i (by omega) hi (by omega)) ?_))
    rw [w64 (by omega) (by omega), w64 (by omega) (by omega), show b + cum y i + dim y i = b + cum y (i + 1) by rw [cum_succ y i hi (by omega)]; omega]
    exact ih (i + 1) (by omega) (by omega)
theorem spec_years (y m d s : Int) (h : timeOk y m d s) : ∀ (n : Nat) (i : Int), 1950 ≤ i → i + n = y → Ev (fun k => spec_TimeOf.l0 k y m d s (-7305 + yrs i) i) (timeAt y m d s, true) := by
  have h' := h
  obtain ⟨⟨hy0, hy1⟩, ⟨hm0, hm1⟩, ⟨hd0, hd1⟩, hs0, hs1⟩ := h'
  intro n
  induction n with
  | zero =>
    intro i hi hn
    obtain rfl : i = y := by omega
    have hyr : 0 ≤ yrs i ∧ yrs i ≤ 60000 := by unfold yrs; omega
    refine Ev.step (fun k => spec_TimeOf.l0.eq_2 _ _ _ _ _ _ _) (ev_neg (by omega) ?_)
    have := spec_months i m d s h (-7305 + yrs i) (by omega) (by omega) (m - 1).toNat 1 (by omega) (by omega)
    rw [show (-7305 + yrs i + cum i 1) = -7305 + yrs i by simp [cum]] at this
    rw [show timeAt i m d s = (-7305 + yrs i + cum i m + d - 1) * 86400 + s by unfold timeAt; omega]
    exact this
  | succ n ih =>
    intro i hi hn
    have hyr : 0 ≤ yrs i ∧ yrs i ≤ 60000 := by unfold yrs; omega
    have := lpy_01 i
    refine Ev.step (fun k => spec_TimeOf.l0.eq_2 _ _ _ _ _ _ _) (ev_pos (by omega) (ev_bindc (l9Year_eq i (by omega)) ?_))
    rw [w64 (by omega) (by omega), w64 (by omega) (by omega), show -7305 + yrs i + (365 + lpy i) = -7305 + yrs (i + 1) by rw [yrs_succ]; omega]
    exact ih (i + 1) (by omega) (by omega)
theorem impl_months (y m d s : Int) (h : timeOk y m d s) (b : Int) (hb0 : -100000 ≤ b) (hb1 : b ≤ 100000) : ∀ (n : Nat) (i : Int), 1 ≤ i → i + n = m → Ev (fun k => impl_TimeOf.l1 k y m s (b + cum y i) i) (-631152000 + (b + cum y m) * 86400 + s, true) := by
  obtain ⟨⟨hy0, hy1⟩, ⟨hm0, hm1⟩, ⟨hd0, hd1⟩, hs0, hs1⟩ := h
  intro n
  induction n with
  | zero =>
    intro i hi hn
    obtain rfl : i = m := by omega
    have := cum_range y i
    refine Ev.step (fun k => impl_TimeOf.l1.eq_2 _ _ _ _ _ _) (ev_neg (by omega) ?_)
    rw [show wrap64 (wrap64 (-631152000 + wrap64 ((b + cum y i) * 86400)) + s) = -631152000 + (b + cum y i) * 86400 + s by unfold wrap64; omega]
    exact Ev.now _
  | succ n ih =>
    intro i hi hn
    have := cum_range y i
    have := dim_range y i
    refine Ev.step (fun k => impl_TimeOf.l1.eq_2 _ _ _ _ _ _) (ev_pos (by omega) (Ev.bind (daysIn_ev y i (by omega) hi (by omega)) ?_))
    rw [w64 (by omega) (by omega), w64 (by omega) (by omega), show b + cum y i + dim y i = b + cum y (i + 1) by rw [cum_succ y i hi (by omega)]; omega]
    exact ih (i + 1) (by omega) (by omega)
theorem impl_years (y m d s : Int) (h : timeOk y m d s) : ∀ (n : Nat) (i : Int), 1950 ≤ i → i + n = y → Ev (fun k => impl_TimeOf.l0 k y m s (d - 1 + yrs i) i) (timeAt y m d s, true) := by
  have h' := h
  obtain ⟨⟨hy0, hy1⟩, ⟨hm0, hm1⟩, ⟨hd0, hd1⟩, hs0, hs1⟩ := h'
  have hdr := dim_range y m
  intro n
  induction n with
  | zero =>
    intro i hi hn
    obtain rfl : i = y := by omega
    have hyr : 0 ≤ yrs i ∧ yrs i ≤ 60000 := by unfold yrs; omega
    refine Ev.step (fun k => impl_TimeOf.l0.eq_2 _ _ _ _ _ _) (ev_neg (by omega) ?_)
    have := impl_months i m d s h (d - 1 + yrs i) (by omega) (by omega) (m - 1).toNat 1 (by omega) (by omega)
    rw [show (d - 1 + yrs i + cum i 1) = d - 1 + yrs i by simp [cum]] at this
    rw [show timeAt i m d s = -631152000 + (d - 1 + yrs i + cum i m) * 86400 + s by unfold timeAt; omega]
    exact this
  | succ n ih =>
    intro i hi hn
    have hyr : 0 ≤ yrs i ∧ yrs i ≤ 60000 := by unfold yrs; omega
    have := lpy_01 i
    refine Ev.step (fun k => impl_TimeOf.l0.eq_2 _ _ _ _ _ _) (ev_pos (by omega) (Ev.bind (daysOf_ev i (by omega)) ?_))
    rw [w64 (by omega) (by omega), w64 (by omega) (by omega), show d - 1 + yrs i + (365 + lpy i) = d - 1 + yrs (i + 1) by rw [yrs_succ]; omega]
    exact ih (i + 1) (by omega) (by omega)

theorem spec_timeOf (y m d s : Int) (h : timeOk y m d s) : Ev (fun k => spec_TimeOf.f k y m d s) (timeAt y m d s, true) := by
  have h' := h
  obtain ⟨h1, h2, h3, h4⟩ := h'
  refine ev_bindc (l1In_eq _ _ _) (ev_pos (by simp [h1]) (ev_bindc (l1In_eq _ _ _) (ev_pos (by simp [h2]) (ev_bindc (l9Days_eq y m (by omega) h2.1 h2.2) (ev_bindc (l1In_eq _ _ _) (ev_pos (by simp [h3]) (ev_bindc (l1In_eq _ _ _) ?_)))))))
  rw [decide_eq_true h4]
  refine Ev.step (fun k => spec_TimeOf.j0.eq_2 _ _ _ _ _ _) (ev_neg (by simp) ?_)
  exact spec_years y m d s h (y - 1950).toNat 1950 (by omega) (by omega)
theorem impl_timeOf (y m d s : Int) (h : timeOk y m d s) : Ev (fun k => impl_TimeOf.f k y m d s) (timeAt y m d s, true) := by
  have h' := h
  obtain ⟨h1, h2, h3, h4⟩ := h'
  refine ev_bindc (within_eq _ _ _) (ev_pos (by simp [h1]) (ev_bindc (within_eq _ _ _) (ev_pos (by simp [h2]) (Ev.bind (daysIn_ev y m (by omega) h2.1 h2.2) (ev_bindc (within_eq _ _ _) (ev_pos (by simp [h3]) (ev_bindc (within_eq _ _ _) ?_)))))))
  rw [decide_eq_true h4]
  refine Ev.step (fun k => impl_TimeOf.j0.eq_2 _ _ _ _ _ _) (ev_neg (by simp) ?_)
  have hdr := dim_range y m
  rw [w64 (by omega) (by omega)]
  have := impl_years y m d s h (y - 1950).toNat 1950 (by omega) (by omega)
  rw [yrs_1950] at this
  simpa using this
theorem spec_timeNo (y m d s : Int) (h : ¬ timeOk y m d s) : Ev (fun k => spec_TimeOf.f k y m d s) (0, false) := by
  have no : Ev (fun k => spec_TimeOf.j0 k y m d s true) (0, false) := Ev.step (fun k => spec_TimeOf.j0.eq_2 _ _ _ _ _ _) (ev_pos rfl (Ev.now _))
  refine ev_bindc (l1In_eq _ _ _) ?_
  by_cases h1 : 1950 ≤ y ∧ y ≤ 2099
  · refine ev_pos (by simp [h1]) (ev_bindc (l1In_eq _ _ _) ?_)
    by_cases h2 : 1 ≤ m ∧ m ≤ 12
    · refine ev_pos (by simp [h2]) (ev_bindc (l9Days_eq y m (by omega) h2.1 h2.2) (ev_bindc (l1In_eq _ _ _) ?_))
      by_cases h3 : 1 ≤ d ∧ d ≤ dim y m
      · refine ev_pos (by simp [h3]) (ev_bindc (l1In_eq _ _ _) ?_)
        rw [decide_eq_false (fun h4 => h ⟨h1, h2, h3, h4⟩)]
        exact no
      · exact ev_neg (by rw [decide_eq_false h3]; simp) no
    · exact ev_neg (by rw [decide_eq_false h2]; simp) no
  · exact ev_neg (by rw [decide_eq_false h1]; simp) no
theorem impl_timeNo (y m d s : Int) (h : ¬ timeOk y m d s) : Ev (fun k => impl_TimeOf.f k y m d s) (0, false) := by
  have no : Ev (fun k => impl_TimeOf.j0 k y m d s true) (0, false) := Ev.step (fun k => impl_TimeOf.j0.eq_2 _ _ _ _ _ _) (ev_pos rfl (Ev.now _))
  refine ev_bindc (within_eq _ _ _) ?_
  by_cases h1 : 1950 ≤ y ∧ y ≤ 2099
  · refine ev_pos (by simp [h1]) (ev_bindc (within_eq _ _ _) ?_)
    by_cases h2 : 1 ≤ m ∧ m ≤ 12
    · refine ev_pos (by simp [h2]) (Ev.bind (daysIn_ev y m (by omega) h2.1 h2.2) (ev_bindc (within_eq _ _ _) ?_))
      by_cases h3 : 1 ≤ d ∧ d ≤ dim y m
      · refine ev_pos (by simp [h3]) (ev_bindc (within_eq _ _ _) ?_)
        rw [decide_eq_false (fun h4 => h ⟨h1, h2, h3, h4⟩)]
        exact no
      · exact ev_neg (by rw [decide_eq_false h3]; simp) no
    · exact ev_neg (by rw [decide_eq_false h2]; simp) no
  · exact ev_neg (by rw [decide_eq_false h1]; simp) no
/-! ### ReadTime -/
theorem timeOf_both (y m d s : Int) : ∃ r : Int × Bool, Ev (fun k => spec_TimeOf.f k y m d s) r ∧ Ev (fun k => impl_TimeOf.f k y m d s) r := by
  by_cases h : timeOk y m d s
  · exact ⟨_, spec_timeOf y m d s h, impl_timeOf y m d s h⟩
  · exact ⟨_, spec_timeNo y m d s h, impl_timeNo y m d s h⟩
def dig (s : ByteArray) (j : Nat) : Bool := decide (48 ≤ bt s (j : Int) ∧ bt s (j : Int) ≤ 57)
def pr (s : ByteArray) (i : Nat) : Int := 10 * (bt s ((2 * i : Nat) : Int) - 48) + (bt s ((2 * i + 1 : Nat) : Int) - 48)
def prs (s : ByteArray) (m : Nat) : List Int := (List.range m).map (pr s)
theorem prs_succ (s : ByteArray) (m : Nat) : prs s (m + 1) = prs s m ++ [pr s m] := by simp [prs, List.range_succ]
theorem prs_length (s : ByteArray) (m : Nat) : (prs s m).length = m := by simp [prs]
theorem bt_extract (s : ByteArray) (n j : Nat) (hn : n ≤ s.size) (hj : j < n) : bt (s.extract 0 n) (j : Int) = bt s (j : Int) := by
  have h1 : j < (s.extract 0 n).size := by rw [ByteArray.size_extract]; omega
  have h2 : j < s.size := by omega
  simp only [bt, Int.toNat_natCast, h1, h2, dif_pos, ByteArray.getElem_extract, Nat.zero_add]
theorem size_ext (s : ByteArray) (n : Nat) (hn : n ≤ s.size) : (s.extract 0 n).size = n := by rw [ByteArray.size_extract]; omega
theorem digits_ev (s : ByteArray) (hs : s.size ≤ 1048576) : Ev (fun k => spec_l8Digits.f k s) ((List.range s.size).all (dig s) && decide ((s.size : Int) > 0)) := by
  refine all_ev (L := fun k i => spec_l8Digits.l0 k s i) s.size ?_ ?_ ?_
  · intro i hi hp r h
    have hb := bt_range s (i : Int)
    refine Ev.step (fun k => spec_l8Digits.l0.eq_2 _ _ _) (ev_pos (by omega) (ev_pos (by omega) (ev_bindc (l1In_eq _ _ _) (ev_pos (by rw [w64 (by omega) (by omega)]; exact hp) ?_))))
    rw [w64 (by omega) (by omega)]; exact h
  · intro i hi hp
    have hb := bt_range s (i : Int)
    exact Ev.step (fun k => spec_l8Digits.l0.eq_2 _ _ _) (ev_pos (by omega) (ev_pos (by omega) (ev_bindc (l1In_eq _ _ _) (ev_neg (by rw [w64 (by omega) (by omega)]; unfold dig at hp; rw [hp]; simp) (Ev.now _)))))
  · exact Ev.step (fun k => spec_l8Digits.l0.eq_2 _ _ _) (ev_neg (by omega) (Ev.now _))
theorem isDigit_eq (c : Int) : impl_isDigit.f c = some (decide (48 ≤ c ∧ c ≤ 57)) := by
  unfold impl_isDigit.f
  by_cases h : c ≥ 48
  · rw [if_pos h]; simp [show 48 ≤ c from h]
  · rw [if_neg h]; simp [show ¬ 48 ≤ c from h]
theorem readTwo_ev (s : ByteArray) (m : Nat) (hs : s.size = 2 * m) (hm : m ≤ 100) : Ev (fun k => impl_readTwo.f k s) (if (List.range s.size).all (dig s) = true then (prs s m, true) else ([], false)) := by
  have key : ∀ d i : Nat, i + d = m → (∀ j, j < 2 * i → dig s j = true) → Ev (fun k => impl_readTwo.l0 k s (prs s i) ((2 * i : Nat) : Int)) (if (List.range s.size).all (dig s) = true then (prs s m, true) else ([], false)) := by
    intro d
    induction d with
    | zero =>
      intro i hi hj
      obtain rfl : i = m := by omega
      have : (List.range s.size).all (dig s) = true := by
        rw [List.all_eq_true]; intro x hx; exact hj x (by have := List.mem_range.1 hx; omega)
      rw [if_pos this]
      exact Ev.step (fun k => impl_readTwo.l0.eq_2 _ _ _ _) (ev_neg (by unfold wrap64; omega) (Ev.now _))
    | succ d ih =>
      intro i hi hj
      have b0 := bt_range s ((2 * i : Nat) : Int)
      have b1 := bt_range s ((2 * i + 1 : Nat) : Int)
      have e1 : wrap64 (((2 * i : Nat) : Int) + 1) = ((2 * i + 1 : Nat) : Int) := by unfold wrap64; omega
      have no : ∀ j, j < s.size → dig s j = false → (if (List.range s.size).all (dig s) = true then (prs s m, true) else ([], false)) = ([], false) := by
        intro j hj1 hj2
        have : (List.range s.size).all (dig s) = false := by
          rw [List.all_eq_false]; exact ⟨j, List.mem_range.2 hj1, by simp [hj2]⟩
        rw [this]; rfl
      refine Ev.step (fun k => impl_readTwo.l0.eq_2 _ _ _ _) (ev_pos (by rw [e1]; omega) (ev_pos (by omega) (ev_pos (by omega) (ev_bindc (isDigit_eq _) ?_))))
      rw [e1]
      cases c0 : dig s (2 * i) with
      | false =>
        rw [no (2 * i) (by omega) c0]
        exact ev_neg (by unfold dig at c0; rw [c0]; simp) (Ev.now _)
      | true =>
        refine ev_pos c0 (ev_pos (by omega) (ev_bindc (isDigit_eq _) ?_))
        cases c1 : dig s (2 * i + 1) with
        | false =>
          rw [no (2 * i + 1) (by omega) c1]
          exact ev_neg (by unfold dig at c1; rw [c1]; simp) (Ev.now _)
        | true =>
          refine ev_pos c1 (ev_pos (by rw [prs_length]; omega) ?_)
          have d0 := of_decide_eq_true c0
          have d1 := of_decide_eq_true c1
          rw [show wrap64 (((2 * i : Nat) : Int) + 2) = ((2 * (i + 1) : Nat) : Int) by unfold wrap64; omega,
            show (bt s ((2 * i : Nat) : Int) - 48) % 256 * 10 + (bt s ((2 * i + 1 : Nat) : Int) - 48) % 256 = pr s i by unfold pr; omega, ← prs_succ]
          refine ih (i + 1) (by omega) ?_
          intro j hj'
          by_cases e : j = 2 * i
          · exact e ▸ c0
          · by_cases e' : j = 2 * i + 1
            · exact e' ▸ c1
            · exact hj j (by omega)
  exact key m 0 (by omega) (by intro j hj; omega)
theorem specLoop_ev (s : ByteArray) (m : Nat) (hs : s.size = 2 * m + 1) (hm : m ≤ 100) (hd : ∀ j, j < 2 * m → dig s j = true) {R : Int × Bool}
    (h : Ev (fun k => spec_ReadTime.l0 k s (s.size : Int) (prs s m) ((2 * m : Nat) : Int)) R) : Ev (fun k => spec_ReadTime.l0 k s (s.size : Int) [] 0) R := by
  have key : ∀ d i : Nat, i + d = m → Ev (fun k => spec_ReadTime.l0 k s (s.size : Int) (prs s i) ((2 * i : Nat) : Int)) R := by
    intro d
    induction d with
    | zero => intro i hi; obtain rfl : i = m := by omega
              exact h
    | succ d ih =>
      intro i hi
      have e1 : wrap64 (((2 * i : Nat) : Int) + 1) = ((2 * i + 1 : Nat) : Int) := by unfold wrap64; omega
      have d0 := of_decide_eq_true (hd (2 * i) (by omega))
      have d1 := of_decide_eq_true (hd (2 * i + 1) (by omega))
      refine Ev.step (fun k => spec_ReadTime.l0.eq_2 _ _ _ _ _) (ev_pos (by rw [e1]; omega) (ev_pos (by omega) (ev_pos (by omega) ?_)))
      rw [e1]
      refine ev_pos (by omega) (ev_pos (by omega) (ev_pos (by rw [prs_length]; omega) ?_))
      rw [show wrap64 (((2 * i : Nat) : Int) + 2) = ((2 * (i + 1) : Nat) : Int) by unfold wrap64; omega,
        show 10 * ((bt s ((2 * i : Nat) : Int) - 48) % 256) + (bt s ((2 * i + 1 : Nat) : Int) - 48) % 256 = pr s i by unfold pr; omega, ← prs_succ]
      exact ih (i + 1) (by omega)
  exact key m 0 (by omega)
theorem tail13 (s : ByteArray) (hs : s.size = 13) (v0 v1 v2 v3 v4 v5 : Int) (h0 : 0 ≤ v0 ∧ v0 ≤ 99) (h3 : 0 ≤ v3 ∧ v3 ≤ 99) (h4 : 0 ≤ v4 ∧ v4 ≤ 99) (h5 : 0 ≤ v5 ∧ v5 ≤ 99)
    (hr : Ev (fun k => impl_readTwo.f k (s.extract 0 12)) ([v0, v1, v2, v3, v4, v5], true)) :
    ∃ R, Ev (fun k => spec_ReadTime.l0 k s (s.size : Int) [v0, v1, v2, v3, v4, v5] ((2 * 6 : Nat) : Int)) R ∧ Ev (fun k => impl_ReadTime.j0 k s false) R := by
  obtain ⟨r, g1, g2⟩ := timeOf_both (if v0 ≥ 50 then 1900 + v0 else 2000 + v0) v1 v2 (3600 * v3 + 60 * v4 + v5)
  have es : wrap64 (wrap64 (wrap64 (3600 * v3) + wrap64 (60 * v4)) + v5) = 3600 * v3 + 60 * v4 + v5 := by unfold wrap64; omega
  have es' : wrap64 (wrap64 (wrap64 (v3 * 3600) + wrap64 (v4 * 60)) + v5) = 3600 * v3 + 60 * v4 + v5 := by unfold wrap64; omega
  have e12 : wrap64 ((s.size : Int) - 1) = 12 := by unfold wrap64; omega
  refine ⟨if v3 > 23 ∨ v4 > 59 ∨ v5 > 59 then (0, false) else r, ?_, ?_⟩
  · refine Ev.step (fun k => spec_ReadTime.l0.eq_2 _ _ _ _ _) (ev_neg (by unfold wrap64; omega) (ev_pos (by simp) (ev_neg (by omega) ?_)))
    by_cases c : v0 ≥ 50
    · refine ev_pos c (ev_pos (by simp) ?_)
      rw [if_pos c] at g1
      by_cases c3 : v3 > 23
      · rw [if_pos (.inl c3)]; exact ev_pos c3 (Ev.now _)
      · refine ev_neg c3 (ev_pos (by simp) ?_)
        by_cases c4 : v4 > 59
        · rw [if_pos (.inr (.inl c4))]; exact ev_pos c4 (Ev.now _)
        · refine ev_neg c4 (ev_pos (by simp) ?_)
          by_cases c5 : v5 > 59
          · rw [if_pos (.inr (.inr c5))]; exact ev_pos c5 (Ev.now _)
          · rw [if_neg (by omega)]
            refine ev_neg c5 (ev_pos (by simp) (ev_pos (by simp) ?_))
            refine Ev.bind (a := r) ?_ (Ev.now _)
            show Ev (fun k => spec_TimeOf.f k (wrap64 (1900 + v0)) v1 v2 (wrap64 (wrap64 (wrap64 (3600 * v3) + wrap64 (60 * v4)) + v5))) r
            rw [es, w64 (by omega) (by omega)]; exact g1
    · refine ev_neg c (ev_pos (by simp) ?_)
      rw [if_neg c] at g1
      by_cases c3 : v3 > 23
      · rw [if_pos (.inl c3)]; exact ev_pos c3 (Ev.now _)
      · refine ev_neg c3 (ev_pos (by simp) ?_)
        by_cases c4 : v4 > 59
        · rw [if_pos (.inr (.inl c4))]; exact ev_pos c4 (Ev.now _)
        · refine ev_neg c4 (ev_pos (by simp) ?_)
          by_cases c5 : v5 > 59
          · rw [if_pos (.inr (.inr c5))]; exact ev_pos c5 (Ev.now _)
          · rw [if_neg (by omega)]
            refine ev_neg c5 (ev_pos (by simp) (ev_pos (by simp) ?_))
            refine Ev.bind (a := r) ?_ (Ev.now _)
            show Ev (fun k => spec_TimeOf.f k (wrap64 (2000 + v0)) v1 v2 (wrap64 (wrap64 (wrap64 (3600 * v3) + wrap64 (60 * v4)) + v5))) r
            rw [es, w64 (by omega) (by omega)]; exact g1
  · refine Ev.step (fun k => impl_ReadTime.j0.eq_2 _ _ _) (ev_neg (by simp) ?_)
    rw [e12]
    refine ev_pos (by omega) (ev_pos (by omega) (Ev.bind hr (ev_pos rfl (ev_pos (by simp) (ev_pos (by simp) (ev_neg (by omega) ?_))))))
    by_cases c : v0 < 50
    · refine ev_pos c (ev_pos (by simp) ?_)
      rw [if_neg (by omega)] at g2
      by_cases c3 : v3 > 23
      · rw [if_pos (.inl c3)]; exact ev_pos c3 (Ev.now _)
      · refine ev_neg c3 (ev_pos (by simp) ?_)
        by_cases c4 : v4 > 59
        · rw [if_pos (.inr (.inl c4))]; exact ev_pos c4 (Ev.now _)
        · refine ev_neg c4 (ev_pos (by simp) ?_)
          by_cases c5 : v5 > 59
          · rw [if_pos (.inr (.inr c5))]; exact ev_pos c5 (Ev.now _)
          · rw [if_neg (by omega)]
            refine ev_neg c5 (ev_pos (by simp) ?_)
            refine Ev.bind (a := r) ?_ (Ev.now _)
            show Ev (fun k => impl_TimeOf.f k (wrap64 (wrap64 (1900 + v0) + 100)) v1 v2 (wrap64 (wrap64 (wrap64 (v3 * 3600) + wrap64 (v4 * 60)) + v5))) r
            rw [es', show wrap64 (wrap64 (1900 + v0) + 100) = 2000 + v0 by unfold wrap64; omega]; exact g2
    · refine ev_neg c (ev_pos (by simp) ?_)
      rw [if_pos (by omega)] at g2
      by_cases c3 : v3 > 23
      · rw [if_pos (.inl c3)]; exact ev_pos c3 (Ev.now _)
      · refine ev_neg c3 (ev_pos (by simp) ?_)
        by_cases c4 : v4 > 59
        · rw [if_pos (.inr (.inl c4))]; exact ev_pos c4 (Ev.now _)
        · refine ev_neg c4 (ev_pos (by simp) ?_)
          by_cases c5 : v5 > 59
          · rw [if_pos (.inr (.inr c5))]; exact ev_pos c5 (Ev.now _)
          · rw [if_neg (by omega)]
            refine ev_neg c5 (ev_pos (by simp) ?_)
            refine Ev.bind (a := r) ?_ (Ev.now _)
            show Ev (fun k => impl_TimeOf.f k (wrap64 (1900 + v0)) v1 v2 (wrap64 (wrap64 (wrap64 (v3 * 3600) + wrap64 (v4 * 60)) + v5))) r
            rw [es', w64 (by omega) (by omega)]; exact g2
theorem tail15 (s : ByteArray) (hs : s.size = 15) (u v0 v1 v2 v3 v4 v5 : Int) (hu : 0 ≤ u ∧ u ≤ 99) (h0 : 0 ≤ v0 ∧ v0 ≤ 99) (h3 : 0 ≤ v3 ∧ v3 ≤ 99) (h4 : 0 ≤ v4 ∧ v4 ≤ 99) (h5 : 0 ≤ v5 ∧ v5 ≤ 99)
    (hr : Ev (fun k => impl_readTwo.f k (s.extract 0 14)) ([u, v0, v1, v2, v3, v4, v5], true)) :
    ∃ R, Ev (fun k => spec_ReadTime.l0 k s (s.size : Int) [u, v0, v1, v2, v3, v4, v5] ((2 * 7 : Nat) : Int)) R ∧ Ev (fun k => impl_ReadTime.j0 k s false) R := by
  obtain ⟨r, g1, g2⟩ := timeOf_both (100 * u + v0) v1 v2 (3600 * v3 + 60 * v4 + v5)
  have es : wrap64 (wrap64 (wrap64 (3600 * v3) + wrap64 (60 * v4)) + v5) = 3600 * v3 + 60 * v4 + v5 := by unfold wrap64; omega
  have es' : wrap64 (wrap64 (wrap64 (v3 * 3600) + wrap64 (v4 * 60)) + v5) = 3600 * v3 + 60 * v4 + v5 := by unfold wrap64; omega
  have ey : wrap64 (wrap64 (100 * u) + v0) = 100 * u + v0 := by unfold wrap64; omega
  have ey' : wrap64 (wrap64 (u * 100) + v0) = 100 * u + v0 := by unfold wrap64; omega
  have e14 : wrap64 ((s.size : Int) - 1) = 14 := by unfold wrap64; omega
  refine ⟨if v3 > 23 ∨ v4 > 59 ∨ v5 > 59 then (0, false) else r, ?_, ?_⟩
  · refine Ev.step (fun k => spec_ReadTime.l0.eq_2 _ _ _ _ _) (ev_neg (by unfold wrap64; omega) (ev_pos (by simp) (ev_pos (by omega) (ev_pos (by simp) (ev_pos (by simp) (Ev.bind (Ev.now [v0, v1, v2, v3, v4, v5]) (ev_pos (by simp) ?_)))))))
    by_cases c3 : v3 > 23
    · rw [if_pos (.inl c3)]; exact ev_pos c3 (Ev.now _)
    · refine ev_neg c3 (ev_pos (by simp) ?_)
      by_cases c4 : v4 > 59
      · rw [if_pos (.inr (.inl c4))]; exact ev_pos c4 (Ev.now _)
      · refine ev_neg c4 (ev_pos (by simp) ?_)
        by_cases c5 : v5 > 59
        · rw [if_pos (.inr (.inr c5))]; exact ev_pos c5 (Ev.now _)
        · rw [if_neg (by omega)]
          refine ev_neg c5 (ev_pos (by simp) (ev_pos (by simp) ?_))
          refine Ev.bind (a := r) ?_ (Ev.now _)
          show Ev (fun k => spec_TimeOf.f k (wrap64 (wrap64 (100 * u) + v0)) v1 v2 (wrap64 (wrap64 (wrap64 (3600 * v3) + wrap64 (60 * v4)) + v5))) r
          rw [es, ey]; exact g1
  · refine Ev.step (fun k => impl_ReadTime.j0.eq_2 _ _ _) (ev_neg (by simp) ?_)
    rw [e14]
    refine ev_pos (by omega) (ev_pos (by omega) (Ev.bind hr (ev_pos rfl (ev_pos (by simp) (ev_pos (by simp) (ev_pos (by omega) (ev_pos (by simp) (Ev.bind (Ev.now [v0, v1, v2, v3, v4, v5]) (ev_pos (by simp) ?_)))))))))
    by_cases c3 : v3 > 23
    · rw [if_pos (.inl c3)]; exact ev_pos c3 (Ev.now _)
    · refine ev_neg c3 (ev_pos (by simp) ?_)
      by_cases c4 : v4 > 59
      · rw [if_pos (.inr (.inl c4))]; exact ev_pos c4 (Ev.now _)
      · refine ev_neg c4 (ev_pos (by simp) ?_)
        by_cases c5 : v5 > 59
        · rw [if_pos (.inr (.inr c5))]; exact ev_pos c5 (Ev.now _)
        · rw [if_neg (by omega)]
          refine ev_neg c5 (ev_pos (by simp) (ev_pos (by simp) ?_))
          refine Ev.bind (a := r) ?_ (Ev.now _)
          show Ev (fun k => impl_TimeOf.f k (wrap64 (wrap64 (u * 100) + v0)) v1 v2 (wrap64 (wrap64 (wrap64 (v3 * 3600) + wrap64 (v4 * 60)) + v5))) r
          rw [es', ey']; exact g2
theorem pr_range (s : ByteArray) (i : Nat) (h0 : dig s (2 * i) = true) (h1 : dig s (2 * i + 1) = true) : 0 ≤ pr s i ∧ pr s i ≤ 99 := by
  have d0 := of_decide_eq_true h0
  have d1 := of_decide_eq_true h1
  unfold pr; omega
theorem dig_ext (s : ByteArray) (n j : Nat) (hn : n ≤ s.size) (hj : j < n) : dig (s.extract 0 n) j = dig s j := by unfold dig; rw [bt_extract s n j hn hj]
theorem prs_ext (s : ByteArray) (m : Nat) (hn : 2 * m ≤ s.size) : prs (s.extract 0 (2 * m)) m = prs s m := by
  unfold prs
  apply List.map_congr_left
  intro i hi
  have := List.mem_range.1 hi
  unfold pr
  rw [bt_extract s (2 * m) _ hn (by omega), bt_extract s (2 * m) _ hn (by omega)]
theorem all_ext (s : ByteArray) (n : Nat) (hn : n ≤ s.size) : (List.range (s.extract 0 n).size).all (dig (s.extract 0 n)) = (List.range n).all (dig s) := by
  rw [size_ext s n hn, Bool.eq_iff_iff, List.all_eq_true, List.all_eq_true]
  constructor
  · intro h x hx; rw [← dig_ext s n x hn (List.mem_range.1 hx)]; exact h x hx
  · intro h x hx; rw [dig_ext s n x hn (List.mem_range.1 hx)]; exact h x hx
/-- both programs behind the look at the last byte -/
theorem body_both (s : ByteArray) (m : Nat) (hm : m = 6 ∨ m = 7) (hs : s.size = 2 * m + 1) : ∃ R, Ev (fun k => (spec_l8Digits.f k (s.extract 0 (2 * m))).bind fun t => spec_ReadTime.j0 k s (s.size : Int) (!t)) R ∧ Ev (fun k => impl_ReadTime.j0 k s false) R := by
  have hz := size_ext s (2 * m) (by omega)
  have hd := digits_ev (s.extract 0 (2 * m)) (by omega)
  have hr := readTwo_ev (s.extract 0 (2 * m)) m hz (by omega)
  rw [all_ext s _ (by omega)] at hd hr
  rw [prs_ext s m (by omega)] at hr
  cases c : (List.range (2 * m)).all (dig s) with
  | false =>
    rw [c] at hd hr
    refine ⟨(0, false), ?_, ?_⟩
    · refine Ev.bind hd ?_
      exact Ev.step (fun k => spec_ReadTime.j0.eq_2 _ _ _ _) (ev_pos (by simp) (Ev.now _))
    · refine Ev.step (fun k => impl_ReadTime.j0.eq_2 _ _ _) (ev_neg (by simp) ?_)
      rw [show wrap64 ((s.size : Int) - 1) = ((2 * m : Nat) : Int) by unfold wrap64; omega, Int.toNat_natCast]
      exact ev_pos (by omega) (ev_pos (by omega) (Ev.bind hr (ev_neg (by simp) (Ev.now _))))
  | true =>
    rw [c] at hd hr
    have hdg : ∀ j, j < 2 * m → dig s j = true := fun j hj => List.all_eq_true.1 c j (List.mem_range.2 hj)
    have hpr : ∀ i, i < m → 0 ≤ pr s i ∧ pr s i ≤ 99 := fun i hi => pr_range s i (hdg _ (by omega)) (hdg _ (by omega))
    have fin : ∃ R, Ev (fun k => spec_ReadTime.l0 k s (s.size : Int) (prs s m) ((2 * m : Nat) : Int)) R ∧ Ev (fun k => impl_ReadTime.j0 k s false) R := by
      rcases hm with rfl | rfl
      · exact tail13 s hs _ _ _ _ _ _ (hpr 0 (by omega)) (hpr 3 (by omega)) (hpr 4 (by omega)) (hpr 5 (by omega)) hr
      · exact tail15 s hs _ _ _ _ _ _ _ (hpr 0 (by omega)) (hpr 1 (by omega)) (hpr 4 (by omega)) (hpr 5 (by omega)) (hpr 6 (by omega)) hr
    obtain ⟨R, f1, f2⟩ := fin
    refine ⟨R, Ev.bind hd ?_, f2⟩
    rw [hz, decide_eq_true (show ((2 * m : Nat) : Int) > 0 by omega)]
    exact Ev.step (fun k => spec_ReadTime.j0.eq_2 _ _ _ _) (ev_neg (by simp) (specLoop_ev s m hs (by omega) hdg f1))
theorem readTime_both (s : ByteArray) (hs : s.size ≤ 1048576) : ∃ R, Ev (fun k => spec_ReadTime.f k s) R ∧ Ev (fun k => impl_ReadTime.f k s) R := by
  have nos : Ev (fun k => spec_ReadTime.j0 k s (s.size : Int) true) (0, false) := Ev.step (fun k => spec_ReadTime.j0.eq_2 _ _ _ _) (ev_pos rfl (Ev.now _))
  have noi : Ev (fun k => impl_ReadTime.j0 k s true) (0, false) := Ev.step (fun k => impl_ReadTime.j0.eq_2 _ _ _) (ev_pos rfl (Ev.now _))
  by_cases c13 : (s.size : Int) = 13
  · have e12 : wrap64 ((s.size : Int) - 1) = 12 := by unfold wrap64; omega
    by_cases cz : bt s 12 = 90
    · obtain ⟨R, h1, h2⟩ := body_both s 6 (.inl rfl) (by omega)
      refine ⟨R, ?_, ?_⟩
      · refine ev_pos c13 ?_
        rw [e12]
        exact ev_pos (by omega) (ev_pos (by omega) (ev_pos cz (ev_pos (by omega) h1)))
      · refine ev_pos c13 ?_
        rw [e12, show (bt s 12 != 90) = false by simpa using cz]
        exact ev_pos (by omega) (ev_pos (by omega) h2)
    · refine ⟨(0, false), ?_, ?_⟩
      · refine ev_pos c13 ?_
        rw [e12]
        exact ev_pos (by omega) (ev_pos (by omega) (ev_neg cz nos))
      · refine ev_pos c13 ?_
        rw [e12, show (bt s 12 != 90) = true by simpa using cz]
        exact ev_pos (by omega) (ev_pos (by omega) noi)
  · by_cases c15 : (s.size : Int) = 15
    · have e14 : wrap64 ((s.size : Int) - 1) = 14 := by unfold wrap64; omega
      by_cases cz : bt s 14 = 90
      · obtain ⟨R, h1, h2⟩ := body_both s 7 (.inr rfl) (by omega)
        refine ⟨R, ?_, ?_⟩
        · refine ev_neg c13 (ev_pos c15 ?_)
          rw [e14]
          exact ev_pos (by omega) (ev_pos (by omega) (ev_pos cz (ev_pos (by omega) h1)))
        · refine ev_neg c13 (ev_pos c15 ?_)
          rw [e14, show (bt s 14 != 90) = false by simpa using cz]
          exact ev_pos (by omega) (ev_pos (by omega) h2)
      · refine ⟨(0, false), ?_, ?_⟩
        · refine ev_neg c13 (ev_pos c15 ?_)
          rw [e14]
          exact ev_pos (by omega) (ev_pos (by omega) (ev_neg cz nos))
        · refine ev_neg c13 (ev_pos c15 ?_)
          rw [e14, show (bt s 14 != 90) = true by simpa using cz]
          exact ev_pos (by omega) (ev_pos (by omega) noi)
    · exact ⟨(0, false), ev_neg c13 (ev_neg c15 nos), ev_neg c13 (ev_neg c15 noi)⟩
theorem FnExactReadTime : laws_FnExactReadTime.Pure := by
  intro s _
  by_cases c0 : (s.size : Int) > 1048576
  · exact ev_k (ev_pos c0 (Ev.now _))
  obtain ⟨R, h1, h2⟩ := readTime_both s (by omega)
  exact ev_k (ev_neg c0 (Ev.bind h1 (Ev.bind h2 (ev_pos rfl (ev_neg (by simp) (Ev.now _))))))

end Go.Proofs.Ytdnijphfamnnoaa.Pure
