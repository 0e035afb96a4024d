/- what is read of drawn bytes is written as just these; where none is read, the place is within. -/
import Derived.Test.YtmeobalddjembaaGFnStrictx4
import Derived.Test.YtmeobalddjembaaBase
import Derived.Test.YtmeobalddjembaaGFnStrictHand
namespace Go.Proofs.Ytmeobalddjembaa.Pure
open Go.RowKit Go.Proofs.Ytmeobalddjembaa.GFnStrict Go.Proofs.YtmeobalddjembaaW.PrintWords Go.Proofs.YtmeobalddjembaaW.PrintLast Go.Proofs.Ytmeobalddjembaa.Base
set_option linter.unusedVariables false
set_option linter.unusedSimpArgs false

open Go.Proofs.Ytmeobalddjembaa.GFnStrict.Hand
/-! ### TreeOk -/
theorem l1In_eq (x a b : Int) : spec_l1In.f x a b = some (decide (a ≤ x ∧ x ≤ b)) := by
  unfold spec_l1In.f
  by_cases h : x ≥ a
  · rw [if_pos h]; simp [show a ≤ x from h]
  · rw [if_neg h]; simp [show ¬ a ≤ x from h]
theorem within_eq (x a b : Int) : impl_within.f x a b = some (decide (a ≤ x ∧ x ≤ b)) := l1In_eq x a b
def madeB (t : Int) : Bool := decide (t / 32 % 2 = 1)
def itemB (x : S52) : Bool := decide (0 ≤ x.f0 ∧ x.f0 ≤ 255) && (decide (x.f0 % 32 ≠ 31) && (if madeB x.f0 = true then decide (x.f1.length = 0 ∧ 0 ≤ x.f2 ∧ x.f2 ≤ 300) else decide (x.f2 = 0)))
theorem l7Made_eq (t : Int) (h0 : 0 ≤ t) (h1 : t ≤ 255) : spec_l7Made.f t = some (madeB t) := by
  unfold spec_l7Made.f madeB
  rw [Int.tdiv_eq_ediv_of_nonneg h0, w64 (by omega) (by omega), Int.tmod_eq_emod_of_nonneg (by omega)]
  congr 1
theorem bits255 : ∀ n : Fin 256, ((Go.bits .and .i64 ((n.val : Nat) : Int) 31 == 31) = decide (((n.val : Nat) : Int) % 32 = 31)) ∧ ((Go.bits .and .i64 ((n.val : Nat) : Int) 32 != 0) = madeB ((n.val : Nat) : Int)) := by decide +kernel
theorem isMade_eq (t : Int) (h0 : 0 ≤ t) (h1 : t ≤ 255) : impl_isMade.f t = some (madeB t) := by
  obtain ⟨n, rfl⟩ := Int.eq_ofNat_of_zero_le h0
  unfold impl_isMade.f
  exact congrArg some (bits255 ⟨n, by omega⟩).2
theorem bits31 (t : Int) (h0 : 0 ≤ t) (h1 : t ≤ 255) : (Go.bits .and .i64 t 31 == 31) = decide (t % 32 = 31) := by
  obtain ⟨n, rfl⟩ := Int.eq_ofNat_of_zero_le h0
  exact (bits255 ⟨n, by omega⟩).1
theorem item_impl (x : S52) : Ev (fun k => impl_itemOk.f k x.f0 x.f1 x.f2) (itemB x) := by
  unfold itemB
  refine ev_bindc (within_eq _ _ _) ?_
  by_cases c : 0 ≤ x.f0 ∧ x.f0 ≤ 255
  · rw [decide_eq_true c, Bool.true_and]
    refine ev_pos rfl ?_
    rw [bits31 _ c.1 c.2]
    by_cases c2 : x.f0 % 32 = 31
    · rw [decide_eq_true c2, decide_eq_false (by simpa using c2), Bool.false_and]
      exact Ev.step (fun k => impl_itemOk.j0.eq_2 _ _ _ _ _) (ev_pos rfl (Ev.now _))
    · rw [decide_eq_false c2, decide_eq_true c2, Bool.true_and]
      refine Ev.step (fun k => impl_itemOk.j0.eq_2 _ _ _ _ _) (ev_neg (by simp) (ev_bindc (isMade_eq _ c.1 c.2) ?_))
      cases hm : madeB x.f0 with
      | true =>
        have hI : (if (true : Bool) = true then decide (x.f1.length = 0 ∧ 0 ≤ x.f2 ∧ x.f2 ≤ 300) else decide (x.f2 = 0)) = decide (x.f1.length = 0 ∧ 0 ≤ x.f2 ∧ x.f2 ≤ 300) := if_pos rfl
        rw [hI]
        refine ev_pos rfl ?_
        by_cases c3 : (x.f1.length : Int) = 0
        · refine ev_pos c3 (ev_bindc (within_eq _ _ _) ?_)
          rw [show decide (x.f1.length = 0 ∧ 0 ≤ x.f2 ∧ x.f2 ≤ 300) = decide (0 ≤ x.f2 ∧ x.f2 ≤ 300) by rw [decide_eq_decide]; omega]
          exact Ev.now _
        · rw [decide_eq_false (by omega)]
          exact ev_neg c3 (Ev.now _)
      | false =>
        have hI : (if (false : Bool) = true then decide (x.f1.length = 0 ∧ 0 ≤ x.f2 ∧ x.f2 ≤ 300) else decide (x.f2 = 0)) = decide (x.f2 = 0) := if_neg (by simp)
        rw [hI]
        exact ev_neg (by simp) (Ev.now _)
  · rw [decide_eq_false c, Bool.false_and]
    exact ev_neg (by simp) (Ev.step (fun k => impl_itemOk.j0.eq_2 _ _ _ _ _) (ev_pos rfl (Ev.now _)))
def allItems (l : List S52) : Bool := (List.range l.length).all (fun i => itemB (rd_T52 l (i : Int)))
theorem itemB_kids {x : S52} (h : itemB x = true) : 0 ≤ x.f2 ∧ x.f2 ≤ 300 ∧ 0 ≤ x.f0 ∧ x.f0 ≤ 255 := by
  unfold itemB at h
  have h0 := of_decide_eq_true (Bool.and_eq_true_iff.1 h).1
  have h := (Bool.and_eq_true_iff.1 (Bool.and_eq_true_iff.1 h).2).2
  by_cases c : madeB x.f0 = true
  · rw [if_pos c] at h
    have := of_decide_eq_true h
    omega
  · rw [if_neg c] at h
    have := of_decide_eq_true h
    omega
theorem allItems_at {l : List S52} (h : allItems l = true) (i : Nat) (hi : i < l.length) : itemB (rd_T52 l (i : Int)) = true := List.all_eq_true.1 h i (List.mem_range.2 hi)
/-- the place behind an item with all below it: both programs' -/
theorem skip_both (l : List S52) (hl : l.length ≤ 1048576) (ha : allItems l = true) : ∀ (g : Nat) (deep : Int) (i : Nat), 0 ≤ deep → deep + g = 13 → i ≤ l.length →
    ∃ r : Int, Ev (fun k => impl_skip.f k l (i : Int) deep) r ∧ Ev (fun k => spec_l7End.f k l (i : Int) deep) r ∧ (r = -1 ∨ (i : Int) < r ∧ r ≤ l.length) := by
  intro g
  induction g with
  | zero =>
    intro deep i h0 hg hi
    have a : Ev (fun k => impl_skip.j0 k l (i : Int) deep true) (-1) := Ev.step (fun k => impl_skip.j0.eq_2 _ _ _ _ _) (ev_pos rfl (Ev.now _))
    have b : Ev (fun k => spec_l7End.j0 k l (i : Int) deep true) (-1) := Ev.step (fun k => spec_l7End.j0.eq_2 _ _ _ _ _) (ev_pos rfl (Ev.now _))
    refine ⟨-1, Ev.step (fun k => impl_skip.f.eq_2 _ _ _ _) ?_, Ev.step (fun k => spec_l7End.f.eq_2 _ _ _ _) ?_, .inl rfl⟩
    · by_cases c : (i : Int) ≥ (l.length : Int)
      · exact ev_pos c a
      · refine ev_neg c ?_
        rw [decide_eq_true (by omega)]
        exact a
    · by_cases c : (i : Int) ≥ (l.length : Int)
      · exact ev_pos c b
      · refine ev_neg c ?_
        rw [decide_eq_true (by omega)]
        exact b
  | succ g ih =>
    intro deep i h0 hg hi
    by_cases c : (i : Int) ≥ (l.length : Int)
    · exact ⟨-1, Ev.step (fun k => impl_skip.f.eq_2 _ _ _ _) (ev_pos c (Ev.step (fun k => impl_skip.j0.eq_2 _ _ _ _ _) (ev_pos rfl (Ev.now _)))),
        Ev.step (fun k => spec_l7End.f.eq_2 _ _ _ _) (ev_pos c (Ev.step (fun k => spec_l7End.j0.eq_2 _ _ _ _ _) (ev_pos rfl (Ev.now _)))), .inl rfl⟩
    have hk := itemB_kids (allItems_at ha i (by omega))
    have key : ∀ (d : Nat) (n : Nat) (c : Int), 0 ≤ c → c + d = (rd_T52 l (i : Int)).f2 → i < n → n ≤ l.length →
        ∃ r : Int, Ev (fun k => impl_skip.l0 k l deep (n : Int) ((rd_T52 l (i : Int)).f2) c) r ∧ Ev (fun k => spec_l7End.l0 k l (i : Int) deep (n : Int) c) r ∧ (r = -1 ∨ (i : Int) < r ∧ r ≤ l.length) := by
      intro d
      induction d with
      | zero =>
        intro n c c0 hc hn hn2
        exact ⟨n, Ev.step (fun k => impl_skip.l0.eq_2 _ _ _ _ _ _) (ev_neg (by omega) (Ev.now _)), Ev.step (fun k => spec_l7End.l0.eq_2 _ _ _ _ _ _) (ev_pos (by omega) (ev_pos (by omega) (ev_neg (by omega) (Ev.now _)))), .inr ⟨by omega, by omega⟩⟩
      | succ d ihd =>
        intro n c c0 hc hn hn2
        have ed : Aside0 (wrap64 (deep + 1) = deep + 1) := ⟨w64 (by omega) (by omega)⟩
        have ec : Aside0 (wrap64 (c + 1) = c + 1) := ⟨w64 (by omega) (by omega)⟩
        obtain ⟨r, r1, r2, r3⟩ := ih (deep + 1) n (by omega) (by omega) hn2
        rcases r3 with rfl | ⟨r3, r4⟩
        · refine ⟨-1, Ev.step (fun k => impl_skip.l0.eq_2 _ _ _ _ _ _) (ev_pos (by omega) ?_), Ev.step (fun k => spec_l7End.l0.eq_2 _ _ _ _ _ _) (ev_pos (by omega) (ev_pos (by omega) (ev_pos (by omega) ?_))), .inl rfl⟩
          · rw [ed.out]
            exact Ev.bind r1 (ev_pos (by decide) (Ev.now _))
          · rw [ed.out]
            exact Ev.bind r2 (ev_pos (by decide) (Ev.now _))
        · obtain ⟨m, rfl⟩ := Int.eq_ofNat_of_zero_le (show 0 ≤ r by omega)
          obtain ⟨q, q1, q2, q3⟩ := ihd m (c + 1) (by omega) (by omega) (by omega) (by omega)
          refine ⟨q, Ev.step (fun k => impl_skip.l0.eq_2 _ _ _ _ _ _) (ev_pos (by omega) ?_), Ev.step (fun k => spec_l7End.l0.eq_2 _ _ _ _ _ _) (ev_pos (by omega) (ev_pos (by omega) (ev_pos (by omega) ?_))), q3⟩
          · rw [ed.out, ec.out]
            exact Ev.bind r1 (ev_neg (by omega) q1)
          · rw [ed.out, ec.out]
            exact Ev.bind r2 (ev_neg (by omega) q2)
    obtain ⟨r, r1, r2, r3⟩ := key ((rd_T52 l (i : Int)).f2).toNat (i + 1) 0 (by omega) (by omega) (by omega) (by omega)
    have ei : Aside0 (wrap64 ((i : Int) + 1) = ((i + 1 : Nat) : Int)) := ⟨by rw [w64 (by omega) (by omega)]; rfl⟩
    refine ⟨r, Ev.step (fun k => impl_skip.f.eq_2 _ _ _ _) (ev_neg c ?_), Ev.step (fun k => spec_l7End.f.eq_2 _ _ _ _) (ev_neg c ?_), r3⟩
    · rw [decide_eq_false (by omega)]
      refine Ev.step (fun k => impl_skip.j0.eq_2 _ _ _ _ _) (ev_neg (by simp) (ev_pos (by omega) (ev_pos (by omega) ?_)))
      rw [ei.out]
      exact r1
    · rw [decide_eq_false (by omega)]
      refine Ev.step (fun k => spec_l7End.j0.eq_2 _ _ _ _ _) (ev_neg (by simp) ?_)
      rw [ei.out]
      exact r2
theorem item_spec (x : S52) {L : Nat → Option Bool} {r : Bool} (hL : itemB x = true → Ev L r) (hN : itemB x = false → r = false) :
    Ev (fun k => (spec_l1In.f x.f0 0 255).bind fun t111 => (if t111 = true then (if (Int.tmod x.f0 32) = 31 then (some false) else ((spec_l1In.f x.f2 0 300).bind fun t112 => (if t112 = true then ((spec_l7Made.f x.f0).bind fun t113 => (if t113 = true then (if (x.f1.length : Int) > 0 then (some false) else (L k)) else (if x.f2 > 0 then (some false) else (L k)))) else (some false)))) else (some false))) r := by
  have no : itemB x = false → ∀ {g : Nat → Option Bool}, (∀ k, g k = some false) → Ev g r := fun h g hg => by rw [hN h]; exact ev_eq hg
  unfold itemB at hL no
  refine ev_bindc (l1In_eq _ _ _) ?_
  by_cases c : 0 ≤ x.f0 ∧ x.f0 ≤ 255
  · rw [decide_eq_true c, Bool.true_and] at hL no
    rw [decide_eq_true c]
    refine ev_pos rfl ?_
    rw [Int.tmod_eq_emod_of_nonneg c.1]
    by_cases c2 : x.f0 % 32 = 31
    · exact ev_pos c2 (no (by rw [decide_eq_false (by simpa using c2), Bool.false_and]) (fun _ => rfl))
    · rw [decide_eq_true c2, Bool.true_and] at hL no
      refine ev_neg c2 (ev_bindc (l1In_eq _ _ _) ?_)
      by_cases c3 : 0 ≤ x.f2 ∧ x.f2 ≤ 300
      · rw [decide_eq_true c3]
        refine ev_pos rfl (ev_bindc (l7Made_eq _ c.1 c.2) ?_)
        cases hm : madeB x.f0 with
        | true =>
          rw [hm, if_pos rfl] at hL no
          refine ev_pos rfl ?_
          by_cases c4 : (x.f1.length : Int) > 0
          · exact ev_pos c4 (no (decide_eq_false (by omega)) (fun _ => rfl))
          · exact ev_neg c4 (hL (decide_eq_true (by omega)))
        | false =>
          rw [hm, if_neg (by simp)] at hL no
          refine ev_neg (by simp) ?_
          by_cases c4 : x.f2 > 0
          · exact ev_pos c4 (no (decide_eq_false (by omega)) (fun _ => rfl))
          · exact ev_neg c4 (hL (decide_eq_true (by omega)))
      · rw [decide_eq_false c3]
        refine ev_neg (by simp) (no ?_ (fun _ => rfl))
        by_cases hm : madeB x.f0 = true
        · rw [if_pos hm]
          exact decide_eq_false (by omega)
        · rw [if_neg hm]
          exact decide_eq_false (by omega)
  · rw [decide_eq_false c]
    exact ev_neg (by simp) (no (by rw [decide_eq_false c, Bool.false_and]) (fun _ => rfl))
theorem treeOk_both (l : List S52) (hl : l.length ≤ 1048576) : ∃ r : Bool, Ev (fun k => spec_TreeOk.f k l) r ∧ Ev (fun k => impl_TreeOk.f k l) r ∧ (r = true → allItems l = true ∧ 1 ≤ l.length ∧ l.length ≤ 300 ∧ Ev (fun k => impl_skip.f k l 0 0) (l.length : Int)) := by
  by_cases c : 1 ≤ (l.length : Int) ∧ (l.length : Int) ≤ 300
  · have any : ∃ t : Int, Ev (fun k => slices_IndexFunc_at43.f k l) t ∧ decide (t ≥ 0) = !(allItems l) := by
      have key : ∀ d i : Nat, i + d = l.length → (∀ j : Nat, j < i → itemB (rd_T52 l (j : Int)) = true) → ∃ r, Ev (fun k => slices_IndexFunc_at43.l0 k l (l.length : Int) (i : Int)) r ∧ decide (r ≥ 0) = !(allItems l) := by
        intro d
        induction d with
        | zero =>
          intro i hi hj
          refine ⟨-1, Ev.step (fun k => slices_IndexFunc_at43.l0.eq_2 _ _ _ _) (ev_neg (by omega) (Ev.now _)), ?_⟩
          have : allItems l = true := by
            unfold allItems
            rw [List.all_eq_true]
            intro x hx
            exact hj x (by have := List.mem_range.1 hx; omega)
          rw [this]
          rfl
        | succ d ih =>
          intro i hi hj
          have hx := item_impl (rd_T52 l (i : Int))
          cases e : itemB (rd_T52 l (i : Int)) with
          | true =>
            rw [e] at hx
            obtain ⟨r, h1, h2⟩ := ih (i + 1) (by omega) (fun j hj' => by
              by_cases e' : j = i
              · rw [e']; exact e
              · exact hj j (by omega))
            refine ⟨r, Ev.step (fun k => slices_IndexFunc_at43.l0.eq_2 _ _ _ _) (ev_pos (by omega) (ev_pos (by omega) (ev_pos (by omega) (Ev.bind (a := false) (Ev.bind hx (Ev.now _)) (ev_neg (by simp) ?_))))), h2⟩
            rw [w64 (by omega) (by omega)]
            exact h1
          | false =>
            rw [e] at hx
            refine ⟨i, Ev.step (fun k => slices_IndexFunc_at43.l0.eq_2 _ _ _ _) (ev_pos (by omega) (ev_pos (by omega) (ev_pos (by omega) (Ev.bind (a := true) (Ev.bind hx (Ev.now _)) (ev_pos rfl (Ev.now _)))))), ?_⟩
            have : allItems l = false := by
              unfold allItems
              rw [List.all_eq_false]
              exact ⟨i, List.mem_range.2 (by omega), by simp [e]⟩
            rw [this, decide_eq_true (by omega)]
            rfl
      exact key l.length 0 (by omega) (fun j hj => by omega)
    obtain ⟨t, ht, ht2⟩ := any
    have hany : Ev (fun k => slices_ContainsFunc_at43.f k l) (!(allItems l)) := by
      rw [← ht2]
      exact Ev.bind ht (Ev.now _)
    cases ha : allItems l with
    | true =>
      rw [ha] at hany
      obtain ⟨r, r1, r2, _⟩ := skip_both l hl ha 13 0 0 (by omega) (by omega) (by omega)
      refine ⟨r == (l.length : Int), ev_bindc (l1In_eq _ _ _) (ev_pos (decide_eq_true c) ?_), ev_bindc (within_eq _ _ _) (ev_pos (decide_eq_true c) (Ev.bind hany (ev_neg (by simp) (Ev.bind r1 (Ev.now _))))), fun h => ⟨rfl, by omega, by omega, by rw [← eq_of_beq h]; exact r1⟩⟩
      have key : ∀ d i : Nat, i + d = l.length → Ev (fun k => spec_TreeOk.l0 k l (i : Int)) (r == (l.length : Int)) := by
        intro d
        induction d with
        | zero =>
          intro i hi
          exact Ev.step (fun k => spec_TreeOk.l0.eq_2 _ _ _) (ev_neg (by omega) (Ev.bind r2 (Ev.now _)))
        | succ d ih =>
          intro i hi
          refine Ev.step (fun k => spec_TreeOk.l0.eq_2 _ _ _) (ev_pos (by omega) (ev_pos (by omega) ?_))
          refine item_spec (rd_T52 l (i : Int)) (L := fun k => spec_TreeOk.l0 k l (wrap64 ((i : Int) + 1))) (fun _ => ?_) (fun h => ?_)
          · rw [w64 (by omega) (by omega)]
            exact ih (i + 1) (by omega)
          · rw [allItems_at ha i (by omega)] at h
            cases h
      exact key l.length 0 (by omega)
    | false =>
      rw [ha] at hany
      refine ⟨false, ev_bindc (l1In_eq _ _ _) (ev_pos (decide_eq_true c) ?_), ev_bindc (within_eq _ _ _) (ev_pos (decide_eq_true c) (Ev.bind hany (ev_pos rfl (Ev.now _)))), fun h => by cases h⟩
      unfold allItems at ha
      obtain ⟨x, hx, hx2⟩ := List.all_eq_false.1 ha
      have hx := List.mem_range.1 hx
      have key : ∀ d i : Nat, i + d = x → Ev (fun k => spec_TreeOk.l0 k l (i : Int)) false := by
        intro d
        induction d with
        | zero =>
          intro i hi
          obtain rfl : i = x := by omega
          refine Ev.step (fun k => spec_TreeOk.l0.eq_2 _ _ _) (ev_pos (by omega) (ev_pos (by omega) ?_))
          exact item_spec (rd_T52 l (i : Int)) (L := fun k => spec_TreeOk.l0 k l (wrap64 ((i : Int) + 1))) (fun h => absurd h hx2) (fun _ => rfl)
        | succ d ih =>
          intro i hi
          refine Ev.step (fun k => spec_TreeOk.l0.eq_2 _ _ _) (ev_pos (by omega) (ev_pos (by omega) ?_))
          refine item_spec (rd_T52 l (i : Int)) (L := fun k => spec_TreeOk.l0 k l (wrap64 ((i : Int) + 1))) (fun _ => ?_) (fun _ => rfl)
          rw [w64 (by omega) (by omega)]
          exact ih (i + 1) (by omega)
      exact key x 0 (by omega)
  · exact ⟨false, ev_bindc (l1In_eq _ _ _) (ev_neg (by rw [decide_eq_false c]; simp) (Ev.now _)), ev_bindc (within_eq _ _ _) (ev_neg (by rw [decide_eq_false c]; simp) (Ev.now _)), fun h => by cases h⟩
/-! ### the place behind an item, as a plain function -/
def oi : Option Nat → Int
  | none => -1
  | some n => n
theorem stepsN_mono {f f' : Nat → Option Nat} (h : ∀ i e, f i = some e → f' i = some e) : ∀ (c n e : Nat), stepsN f c n = some e → stepsN f' c n = some e
  | 0, _, _, he => he
  | c + 1, n, e, he => by
    unfold stepsN at he ⊢
    cases hf : f n with
    | none => rw [hf] at he; cases he
    | some m =>
      rw [hf] at he
      rw [h n m hf]
      exact stepsN_mono h c m e he
theorem sk_mono (l : List S52) : ∀ (g i e : Nat), sk l g i = some e → sk l (g + 1) i = some e
  | 0, _, _, he => by cases he
  | g + 1, i, e, he => by
    unfold sk at he ⊢
    by_cases c : i < l.length
    · rw [if_pos c] at he ⊢
      exact stepsN_mono (sk_mono l g) _ _ _ he
    · rw [if_neg c] at he
      cases he
theorem sk_mono_le (l : List S52) {g g' i e : Nat} (hg : g ≤ g') (h : sk l g i = some e) : sk l g' i = some e := by
  induction hg with
  | refl => exact h
  | step _ ih => exact sk_mono l _ _ _ ih
/-- Each place within a tree is the start of a tree. -/
theorem stepsN_in {f : Nat → Option Nat} : ∀ (c n e j : Nat), stepsN f c n = some e → n ≤ j → j < e → ∃ s t, f s = some t ∧ s ≤ j ∧ j < t
  | 0, n, e, j, he, h1, h2 => by
    obtain rfl : n = e := Option.some.inj he
    omega
  | c + 1, n, e, j, he, h1, h2 => by
    unfold stepsN at he
    cases hf : f n with
    | none => rw [hf] at he; cases he
    | some m =>
      rw [hf] at he
      by_cases c2 : j < m
      · exact ⟨n, m, hf, h1, c2⟩
      · exact stepsN_in c m e j he (by omega) h2
theorem sk_in (l : List S52) : ∀ (g i e j : Nat), g ≤ 13 → sk l g i = some e → i ≤ j → j < e → ∃ t, sk l 13 j = some t
  | 0, _, _, _, _, he, _, _ => by cases he
  | g + 1, i, e, j, hg, he, h1, h2 => by
    by_cases c : i = j
    · subst c
      exact ⟨e, sk_mono_le l hg he⟩
    · unfold sk at he
      by_cases c : i < l.length
      · rw [if_pos c] at he
        obtain ⟨s, t, a, b, d⟩ := stepsN_in _ _ _ j he (by omega) h2
        exact sk_in l g s t j (by omega) a b d
      · rw [if_neg c] at he
        cases he
theorem skip_sk (l : List S52) (hl : l.length ≤ 1048576) (ha : allItems l = true) : ∀ (g : Nat) (deep : Int) (i : Nat), 0 ≤ deep → deep + g = 13 → i ≤ l.length →
    Ev (fun k => impl_skip.f k l (i : Int) deep) (oi (sk l g i)) := by
  intro g
  induction g with
  | zero =>
    intro deep i h0 hg hi
    have a : Ev (fun k => impl_skip.j0 k l (i : Int) deep true) (-1) := Ev.step (fun k => impl_skip.j0.eq_2 _ _ _ _ _) (ev_pos rfl (Ev.now _))
    refine Ev.step (fun k => impl_skip.f.eq_2 _ _ _ _) ?_
    by_cases c : (i : Int) ≥ (l.length : Int)
    · exact ev_pos c a
    · refine ev_neg c ?_
      rw [decide_eq_true (by omega)]
      exact a
  | succ g ih =>
    intro deep i h0 hg hi
    by_cases c : (i : Int) ≥ (l.length : Int)
    · have : sk l (g + 1) i = none := by
        unfold sk
        rw [if_neg (by omega)]
      rw [this]
      exact Ev.step (fun k => impl_skip.f.eq_2 _ _ _ _) (ev_pos c (Ev.step (fun k => impl_skip.j0.eq_2 _ _ _ _ _) (ev_pos rfl (Ev.now _))))
    have hk := itemB_kids (allItems_at ha i (by omega))
    have key : ∀ (d : Nat) (n : Nat) (c : Int), 0 ≤ c → c + d = (rd_T52 l (i : Int)).f2 → i < n → n ≤ l.length →
        Ev (fun k => impl_skip.l0 k l deep (n : Int) ((rd_T52 l (i : Int)).f2) c) (oi (stepsN (sk l g) d n)) := by
      intro d
      induction d with
      | zero =>
        intro n c c0 hc hn hn2
        exact Ev.step (fun k => impl_skip.l0.eq_2 _ _ _ _ _ _) (ev_neg (by omega) (Ev.now _))
      | succ d ihd =>
        intro n c c0 hc hn hn2
        have ed : Aside0 (wrap64 (deep + 1) = deep + 1) := ⟨w64 (by omega) (by omega)⟩
        have ec : Aside0 (wrap64 (c + 1) = c + 1) := ⟨w64 (by omega) (by omega)⟩
        have r1 := ih (deep + 1) n (by omega) (by omega) hn2
        unfold stepsN
        cases hs : sk l g n with
        | none =>
          rw [hs] at r1
          refine Ev.step (fun k => impl_skip.l0.eq_2 _ _ _ _ _ _) (ev_pos (by omega) ?_)
          rw [ed.out]
          exact Ev.bind r1 (ev_pos (by decide) (Ev.now _))
        | some m =>
          rw [hs] at r1
          have := sk_le l _ _ _ hs
          refine Ev.step (fun k => impl_skip.l0.eq_2 _ _ _ _ _ _) (ev_pos (by omega) ?_)
          rw [ed.out, ec.out]
          exact Ev.bind r1 (ev_neg (by show ¬ ((m : Int) < 0); omega) (ihd m (c + 1) (by omega) (by omega) (by omega) (by omega)))
    have r1 := key ((rd_T52 l (i : Int)).f2).toNat (i + 1) 0 (by omega) (by omega) (by omega) (by omega)
    have ei : Aside0 (wrap64 ((i : Int) + 1) = ((i + 1 : Nat) : Int)) := ⟨by rw [w64 (by omega) (by omega)]; rfl⟩
    have e2 : sk l (g + 1) i = stepsN (sk l g) ((rd_T52 l (i : Int)).f2).toNat (i + 1) := by
      conv => lhs; unfold sk
      exact if_pos (by omega)
    rw [e2]
    refine Ev.step (fun k => impl_skip.f.eq_2 _ _ _ _) (ev_neg c ?_)
    rw [decide_eq_false (by omega)]
    refine Ev.step (fun k => impl_skip.j0.eq_2 _ _ _ _ _) (ev_neg (by simp) (ev_pos (by omega) (ev_pos (by omega) ?_)))
    rw [ei.out]
    exact r1
theorem end_sk (l : List S52) (hl : l.length ≤ 1048576) (ha : allItems l = true) (g : Nat) (deep : Int) (i : Nat) (h0 : 0 ≤ deep) (hg : deep + g = 13) (hi : i ≤ l.length) :
    Ev (fun k => spec_l7End.f k l (i : Int) deep) (oi (sk l g i)) := by
  obtain ⟨r, r1, r2, _⟩ := skip_both l hl ha g deep i h0 hg hi
  rw [ev_uniq (skip_sk l hl ha g deep i h0 hg hi) r1]
  exact r2
/-- the tree that TreeOk lets through -/
structure TreeB (l : List S52) : Prop where
  ha : allItems l = true
  h1 : 1 ≤ l.length
  h300 : l.length ≤ 300
  hs : sk l 13 0 = some l.length
theorem treeOk_tree (l : List S52) (hl : l.length ≤ 1048576) : ∃ r : Bool, Ev (fun k => spec_TreeOk.f k l) r ∧ Ev (fun k => impl_TreeOk.f k l) r ∧ (r = true → TreeB l) := by
  obtain ⟨r, r1, r2, h⟩ := treeOk_both l hl
  refine ⟨r, r1, r2, fun hr => ?_⟩
  obtain ⟨ha, h1, h3, h4⟩ := h hr
  have e := ev_uniq (skip_sk l hl ha 13 0 0 (by omega) (by omega) (by omega)) h4
  refine ⟨ha, h1, h3, ?_⟩
  cases hs : sk l 13 0 with
  | none =>
    rw [hs] at e
    simp only [oi] at e
    omega
  | some m =>
    rw [hs] at e
    simp only [oi] at e
    congr 1
    omega
theorem TreeB.kids {l : List S52} (h : TreeB l) {i : Nat} (hi : i < l.length) : ∃ e, stepsN (sk l 12) ((rd_T52 l (i : Int)).f2).toNat (i + 1) = some e ∧ e ≤ l.length := by
  obtain ⟨t, ht⟩ := sk_in l 13 0 l.length i (Nat.le_refl _) h.hs (by omega) hi
  have hle := sk_le l _ _ _ ht
  unfold sk at ht
  rw [if_pos hi] at ht
  exact ⟨t, ht, hle.2⟩
/-! ### the reference's bytes of an item -/
theorem l7Length_eq (n : Nat) : spec_l7Length.f (n : Int) = some (lenB n) := by
  unfold spec_l7Length.f lenB
  by_cases c : n < 128
  · rw [if_pos (by omega), if_pos c]
  · rw [if_neg (by omega), if_neg c]
    by_cases c2 : n < 256
    · rw [if_pos (by omega), if_pos c2]
    · rw [if_neg (by omega), if_neg c2]
theorem l1Bytes_eq (xs : List Int) (h : xs.length ≤ 1048576) : spec_l1Bytes.f xs = some xs := by
  unfold spec_l1Bytes.f
  show (if 0 + xs.length < 140737488355328 then some ([] ++ xs) else none) = _
  rw [if_pos (by omega)]
  rfl
theorem l7Write_ev {l : List S52} (hl : l.length ≤ 300) (hkb : ∀ j : Nat, j < l.length → 0 ≤ (rd_T52 l (j : Int)).f2 ∧ (rd_T52 l (j : Int)).f2 ≤ 300) (hbb : ∀ j : Nat, j < l.length → (rd_T52 l (j : Int)).f1.length ≤ 1048576) (hwt : wt l 0 l.length ≤ 60000) :
    ∀ (g i e : Nat), sk l g i = some e → Ev (fun k => spec_l7Write.f k l (i : Int)) (der l g i, (e : Int)) := by
  intro g
  induction g with
  | zero =>
    intro i e h
    cases h
  | succ g ih =>
    intro i e h
    have hle := sk_le l _ _ _ h
    have hi : i < l.length := by omega
    unfold sk at h
    rw [if_pos hi] at h
    have hki := hkb i hi
    have hbi := hbb i hi
    obtain ⟨cnt, hcnt⟩ : ∃ cnt : Nat, (rd_T52 l (i : Int)).f2 = (cnt : Int) := ⟨_, (Int.toNat_of_nonneg hki.1).symm⟩
    have hder : der l (g + 1) i = derW (rd_T52 l (i : Int)).f0 ((rd_T52 l (i : Int)).f1 ++ derK (der l g) (sk l g) cnt (i + 1)) := by
      show derW _ _ = _
      rw [hcnt]
      rfl
    rw [hder]
    rw [hcnt, Int.toNat_natCast] at h
    have hw1 := wt_split l (i := 0) (m := i) (e := l.length) (by omega) (by omega)
    have hw2 := wt_split l (i := i) (m := e) (e := l.length) (by omega) (by omega)
    have hw3 := wt_split l (i := i) (m := i + 1) (e := e) (by omega) (by omega)
    have hw4 := wt_one l i
    have key : ∀ (d n c : Nat) (cur : List Int), c + d = cnt → n ≤ e → cur.length + wt l n e ≤ 60000 → stepsN (sk l g) d n = some e →
        Ev (fun k => spec_l7Write.l0 k l (i : Int) cur (n : Int) (c : Int)) (derW (rd_T52 l (i : Int)).f0 (cur ++ derK (der l g) (sk l g) d n), (e : Int)) := by
      intro d
      induction d with
      | zero =>
        intro n c cur hc hn hcw hs
        obtain rfl : n = e := Option.some.inj hs
        refine Ev.step (fun k => spec_l7Write.l0.eq_2 _ _ _ _ _ _) (ev_pos (by omega) (ev_pos (by omega) (ev_neg (by omega) ?_)))
        have hlb := lenB_length cur.length
        refine ev_bindc rfl (ev_bindc (l7Length_eq cur.length) (ev_pos (by simp only [List.length_singleton]; omega) (ev_bindc rfl (ev_pos (by simp only [List.length_append, List.length_singleton]; omega) ?_))))
        have e1 : derW (rd_T52 l (i : Int)).f0 (cur ++ derK (der l g) (sk l g) 0 n) = [(rd_T52 l (i : Int)).f0 % 256] ++ lenB cur.length ++ cur := by
          simp [derK, derW]
        rw [e1]
        exact Ev.now _
      | succ d ihd =>
        intro n c cur hc hn hcw hs
        unfold stepsN at hs
        cases hx : sk l g n with
        | none => rw [hx] at hs; cases hs
        | some m =>
          rw [hx] at hs
          have h1 := sk_le l _ _ _ hx
          have h2 := stepsN_le (sk_le l g) d m e (by omega) hs
          have h3 := (der_le l _ _ _ hx).1
          have h4 := wt_split l (i := n) (m := m) (e := e) (by omega) (by omega)
          refine Ev.step (fun k => spec_l7Write.l0.eq_2 _ _ _ _ _ _) (ev_pos (by omega) (ev_pos (by omega) (ev_pos (by omega) (Ev.bind (ih n m hx) (ev_pos (by show cur.length + (der l g n).length < _; omega) ?_)))))
          rw [w64 (by omega) (by omega)]
          have := ihd m (c + 1) (cur ++ der l g n) (by omega) (by omega) (by rw [List.length_append]; omega) hs
          have e1 : derK (der l g) (sk l g) (d + 1) n = der l g n ++ derK (der l g) (sk l g) d m := by
            show der l g n ++ derK (der l g) (sk l g) d ((sk l g n).getD 0) = _
            rw [hx]
            rfl
          rw [e1, ← List.append_assoc]
          exact this
    refine Ev.step (fun k => spec_l7Write.f.eq_2 _ _ _) (ev_pos (by omega) (ev_pos (by omega) (ev_bindc (l1Bytes_eq _ hbi) ?_)))
    rw [w64 (x := (i : Int) + 1) (by omega) (by omega)]
    exact key cnt (i + 1) 0 _ (by omega) (by omega) (by omega) h
theorem sm_mono (l : List S52) : ∀ (d i : Nat), sm l i ≤ sm l (i + d)
  | 0, i => Nat.le_refl _
  | d + 1, i => by
    have := sm_mono l d i
    have e : sm l (i + (d + 1)) = sm l (i + d) + (rd_T52 l ((i + d : Nat) : Int)).f1.length := rfl
    omega
theorem specW_ev (l : List S52) (hl : l.length ≤ 1048576) (hbb : ∀ j : Nat, j < l.length → (rd_T52 l (j : Int)).f1.length ≤ 1048576) (t : Bool) (ht : Ev (fun k => spec_TreeOk.f k l) t) (hT : t = true → TreeB l) : Ev (fun k => spec_WriteDer.f k l) (writeDer l t) := by
  cases t with
  | false =>
    have e : writeDer l false = ([], false) := by
      unfold writeDer
      rw [if_neg (by simp)]
    rw [e]
    exact Ev.bind ht (ev_neg (by simp) (Ev.now _))
  | true =>
    have T := hT rfl
    have h3 := T.h300
    have hkb : ∀ j : Nat, j < l.length → 0 ≤ (rd_T52 l (j : Int)).f2 ∧ (rd_T52 l (j : Int)).f2 ≤ 300 := fun j hj => by
      have := itemB_kids (allItems_at T.ha j hj)
      exact ⟨this.1, this.2.1⟩
    refine Ev.bind ht (ev_pos rfl ?_)
    have key : ∀ (d j : Nat), j + d = l.length → Ev (fun k => spec_WriteDer.l0 k l ((sm l j : Nat) : Int) (j : Int)) (writeDer l true) := by
      intro d
      induction d with
      | zero =>
        intro j hj
        obtain rfl : j = l.length := by omega
        refine Ev.step (fun k => spec_WriteDer.l0.eq_2 _ _ _ _) (ev_neg (by omega) ?_)
        by_cases c : ((sm l l.length : Nat) : Int) > 4000
        · have e : writeDer l true = ([], false) := by
            unfold writeDer
            rw [if_neg (by omega)]
          rw [e]
          exact ev_pos c (Ev.now _)
        · have hwt : wt l 0 l.length ≤ 60000 := by
            rw [sm_wt]
            omega
          refine ev_neg c (Ev.bind (l7Write_ev h3 hkb hbb hwt 13 0 l.length T.hs) ?_)
          by_cases c2 : ((der l 13 0).length : Int) > 4000
          · have e : writeDer l true = ([], false) := by
              unfold writeDer
              rw [if_neg (by omega)]
            rw [e]
            exact ev_pos c2 (Ev.now _)
          · have e : writeDer l true = (der l 13 0, true) := by
              unfold writeDer
              rw [if_pos ⟨rfl, by omega, by omega⟩]
            rw [e]
            exact ev_neg c2 (Ev.now _)
      | succ d ih =>
        intro j hj
        refine Ev.step (fun k => spec_WriteDer.l0.eq_2 _ _ _ _) (ev_pos (by omega) (ev_pos (by omega) ?_))
        have hm := sm_mono l d (j + 1)
        rw [show j + 1 + d = l.length by omega] at hm
        have e1 : sm l (j + 1) = sm l j + (rd_T52 l (j : Int)).f1.length := rfl
        have hle := sm_le hbb j (by omega)
        have hbj := hbb j (by omega)
        by_cases c : ((rd_T52 l (j : Int)).f1.length : Int) > 4000
        · have e : writeDer l true = ([], false) := by
            unfold writeDer
            rw [if_neg (by omega)]
          rw [e]
          exact ev_pos c (Ev.now _)
        · refine ev_neg c ?_
          have h5 : j * 1048576 ≤ 300 * 1048576 := Nat.mul_le_mul_right _ (by omega)
          rw [w64 (x := ((sm l j : Nat) : Int) + ((rd_T52 l (j : Int)).f1.length : Int)) (by omega) (by omega), w64 (x := (j : Int) + 1) (by omega) (by omega)]
          have := ih (j + 1) (by omega)
          rw [e1] at this
          rw [Int.natCast_add] at this
          exact this
    exact key l.length 0 (by omega)
/-! ### the bytes of a tree, read again -/
theorem rd52' {l : List S52} {i : Nat} (h : i < l.length) : rd_T52 l (i : Int) = l[i] := by simp [rd_T52, h]
theorem rd52_app (pre : List S52) (x : S52) (post : List S52) : rd_T52 (pre ++ x :: post) (pre.length : Int) = x := by
  rw [rd52' (by simp)]
  simp
theorem at8_eq (b : List Int) (i : Nat) : at8 b i = b.getD i 0 := by
  unfold at8
  rw [Base.rd_nat]
theorem at8_app (X Z : List Int) (j : Nat) : at8 (X ++ Z) (X.length + j) = Z.getD j 0 := by
  rw [at8_eq, List.getD_eq_getElem?_getD, List.getElem?_append_right (by omega), show X.length + j - X.length = j by omega, ← List.getD_eq_getElem?_getD]
theorem head_der (X Y body : List Int) (tag : Int) (E g : Nat) (ht0 : 0 ≤ tag) (ht1 : tag ≤ 255) (h31 : tag % 32 ≠ 31) (hn : body.length < 65536) (hE : X.length + (derW tag body).length ≤ E) :
    head (X ++ (derW tag body ++ Y)) X.length E (g + 1) = .ok (tag, X.length + 1 + (lenB body.length).length, body.length) := by
  have key := at8_app X (derW tag body ++ Y)
  have k0 : at8 (X ++ (derW tag body ++ Y)) X.length = tag := by
    have := key 0
    rw [Nat.add_zero] at this
    rw [this]
    show tag % 256 = tag
    omega
  have k1 := key 1
  have k2 := key 2
  have k3 := key 3
  generalize (X ++ (derW tag body ++ Y)) = B at k0 k1 k2 k3 ⊢
  unfold head
  rw [k0]
  unfold derW at hE k1 k2 k3
  unfold lenB at hE k1 k2 k3 ⊢
  by_cases c1 : body.length < 128
  · simp only [if_pos c1, List.length_cons, List.length_nil, List.length_append] at hE k1 ⊢
    have k1 : at8 B (X.length + 1) = (body.length : Int) := k1.trans (by show (body.length : Int) % 256 = _; omega)
    rw [k1, if_neg (by omega), if_neg h31, if_neg (by omega), if_neg (by omega), if_pos (by omega)]
    unfold headFin
    rw [if_neg (by omega)]
    exact congrArg Except.ok (by rw [Int.toNat_natCast])
  · by_cases c2 : body.length < 256
    · simp only [if_neg c1, if_pos c2, List.length_cons, List.length_nil, List.length_append] at hE k1 k2 ⊢
      have k1 : at8 B (X.length + 1) = 129 := k1
      have k2 : at8 B (X.length + 2) = (body.length : Int) := k2.trans (by show (body.length : Int) % 256 = _; omega)
      rw [k1, k2, if_neg (by omega), if_neg h31, if_neg (by omega), if_neg (by omega), if_neg (by omega), if_neg (by omega), if_pos rfl, if_neg (by omega), if_neg (by omega)]
      unfold headFin
      rw [if_neg (by omega)]
      exact congrArg Except.ok (by rw [Int.toNat_natCast])
    · simp only [if_neg c1, if_neg c2, List.length_cons, List.length_nil, List.length_append] at hE k1 k2 k3 ⊢
      have k1 : at8 B (X.length + 1) = 130 := k1
      have k2 : at8 B (X.length + 2) = (body.length : Int) / 256 := k2.trans (by show (body.length : Int) / 256 % 256 = _; omega)
      have k3 : at8 B (X.length + 3) = (body.length : Int) % 256 := k3
      have k4 : (body.length : Int) / 256 * 256 + (body.length : Int) % 256 = (body.length : Int) := by omega
      rw [k1, k2, k3, k4, if_neg (by omega), if_neg h31, if_neg (by omega), if_neg (by omega), if_neg (by omega), if_neg (by omega), if_neg (by omega), if_neg (by omega), if_neg (by omega)]
      unfold headFin
      rw [if_neg (by omega)]
      exact congrArg Except.ok (by rw [Int.toNat_natCast])
theorem derK_ge {l : List S52} {g : Nat} : ∀ (c n e : Nat), stepsN (sk l g) c n = some e → 2 * c ≤ (derK (der l g) (sk l g) c n).length
  | 0, n, e, h => by omega
  | c + 1, n, e, h => by
    unfold stepsN at h
    cases hx : sk l g n with
    | none => rw [hx] at h; cases h
    | some m =>
      rw [hx] at h
      have h1 := derK_ge c m e h
      have h2 := (der_le l _ _ _ hx).2
      simp only [derK, hx, List.length_append, Option.getD_some]
      omega
theorem part_nil (l : List S52) (n : Nat) : partL l n n = [] := by simp [partL]
def GoodL (l : List S52) : Prop := ∀ j : Nat, j < l.length → itemB (rd_T52 l (j : Int)) = true
theorem itemB_tag {x : S52} (h : itemB x = true) : x.f0 % 32 ≠ 31 ∧ (madeB x.f0 = true → x.f1 = [] ∧ 0 ≤ x.f2 ∧ x.f2 ≤ 300) ∧ (madeB x.f0 = false → x.f2 = 0) := by
  unfold itemB at h
  have h2 := (Bool.and_eq_true_iff.1 h).2
  have h3 := of_decide_eq_true (Bool.and_eq_true_iff.1 h2).1
  have h4 := (Bool.and_eq_true_iff.1 h2).2
  refine ⟨h3, fun hm => ?_, fun hm => ?_⟩
  · rw [if_pos hm] at h4
    have := of_decide_eq_true h4
    exact ⟨List.eq_nil_of_length_eq_zero this.1, this.2⟩
  · rw [if_neg (by simp [hm])] at h4
    exact of_decide_eq_true h4
theorem rdKids_der {l : List S52} {g : Nat} {b : List Int} {stop : Nat}
    (hit : ∀ i e, sk l g i = some e → ∀ X Y : List Int, b = X ++ (der l g i ++ Y) → X.length + (der l g i).length ≤ stop → rdItem b g stop X.length = .ok (partL l i e, X.length + (der l g i).length)) :
    ∀ (c n e : Nat), stepsN (sk l g) c n = some e → n ≤ l.length → ∀ (X Y : List Int) (N : Nat), b = X ++ (derK (der l g) (sk l g) c n ++ Y) → stop = X.length + (derK (der l g) (sk l g) c n).length → c ≤ N →
    rdKids (rdItem b g stop) stop N X.length = .ok (partL l n e, c)
  | 0, n, e, h, hn, X, Y, N, hb, hs, hN => by
    obtain rfl : n = e := Option.some.inj h
    rw [part_nil]
    cases N with
    | zero => rfl
    | succ N =>
      unfold rdKids
      rw [if_neg (by simp [derK] at hs; omega)]
  | c + 1, n, e, h, hn, X, Y, N, hb, hs, hN => by
    unfold stepsN at h
    cases hx : sk l g n with
    | none => rw [hx] at h; cases h
    | some m =>
      rw [hx] at h
      have hm := sk_le l _ _ _ hx
      have h2 := (der_le l _ _ _ hx).2
      have h3 := stepsN_le (sk_le l g) c m e (by omega) h
      have ek : derK (der l g) (sk l g) (c + 1) n = der l g n ++ derK (der l g) (sk l g) c m := by simp only [derK, hx, Option.getD_some]
      rw [ek, List.append_assoc] at hb
      rw [ek, List.length_append] at hs
      cases N with
      | zero => omega
      | succ N =>
        have e1 := hit n m hx X _ hb (by omega)
        have ih := rdKids_der hit c m e h (by omega) (X ++ der l g n) Y N (by rw [hb]; simp) (by rw [List.length_append]; omega) (by omega)
        rw [List.length_append] at ih
        unfold rdKids
        rw [if_pos (by omega), e1]
        simp only
        rw [ih]
        simp only
        rw [part_split l (by omega : n ≤ m) h3.1]
theorem rdItem_der {l : List S52} (hg : GoodL l) {b : List Int} (hb4 : b.length ≤ 60000) : ∀ (g i e : Nat), sk l g i = some e → ∀ (X Y : List Int) (E : Nat), b = X ++ (der l g i ++ Y) → X.length + (der l g i).length ≤ E → rdItem b g E X.length = .ok (partL l i e, X.length + (der l g i).length)
  | 0, i, e, h => by cases h
  | g + 1, i, e, h => by
    intro X Y E hb hE
    have hd : (der l (g + 1) i).length ≤ 60000 := by
      rw [hb, List.length_append, List.length_append] at hb4
      omega
    have hle := sk_le l _ _ _ h
    have hi : i < l.length := by omega
    have hB := hg i hi
    have hK := itemB_kids hB
    obtain ⟨t31, tm, tn⟩ := itemB_tag hB
    have h' := h
    unfold sk at h'
    rw [if_pos hi] at h'
    obtain ⟨x, hx⟩ : ∃ x, rd_T52 l (i : Int) = x := ⟨_, rfl⟩
    obtain ⟨body, hbody⟩ : ∃ body, x.f1 ++ derK (der l g) (sk l g) (x.f2).toNat (i + 1) = body := ⟨_, rfl⟩
    have hder : der l (g + 1) i = derW x.f0 body := by
      rw [← hbody, ← hx]
      rfl
    rw [hx] at h' hB hK t31 tm tn
    rw [hder] at hb hd hE ⊢
    have hlen : (derW x.f0 body).length = 1 + (lenB body.length).length + body.length := by
      unfold derW
      rw [List.length_cons, List.length_append]
      omega
    have hh := head_der X Y body x.f0 E g hK.2.2.1 hK.2.2.2 t31 (by omega) hE
    rw [← hb] at hh
    have hbb : b = (X ++ (x.f0 % 256 :: lenB body.length)) ++ (body ++ Y) := by
      rw [hb]
      unfold derW
      simp
    have hXl : (X ++ (x.f0 % 256 :: lenB body.length)).length = X.length + 1 + (lenB body.length).length := by
      rw [List.length_append, List.length_cons]
      omega
    have hmT : madeT x.f0 = madeB x.f0 := rfl
    unfold rdItem
    rw [hh]
    simp only
    rw [hmT]
    by_cases cm : madeB x.f0 = true
    · obtain ⟨f1, f20, f21⟩ := tm cm
      rw [if_pos cm]
      rw [f1, List.nil_append] at hbody
      have hge := derK_ge _ _ _ h'
      rw [hbody] at hge
      have ih := rdKids_der (l := l) (g := g) (b := b) (stop := X.length + 1 + (lenB body.length).length + body.length) (fun i' e' h2 X' Y' hb' hs' => rdItem_der hg hb4 g i' e' h2 X' Y' _ hb' hs') (x.f2).toNat (i + 1) e h' (by omega) (X ++ (x.f0 % 256 :: lenB body.length)) Y body.length (by rw [hbody]; exact hbb) (by rw [hbody, hXl]) (by omega)
      rw [hXl] at ih
      rw [ih]
      simp only
      have he := stepsN_le (sk_le l g) _ _ _ (by omega) h'
      rw [part_split l (show i ≤ i + 1 by omega) he.1, part_one, hx, hlen]
      have ex : (⟨x.f0, [], (((x.f2).toNat : Nat) : Int)⟩ : S52) = x := by
        rw [Int.toNat_of_nonneg f20, ← f1]
      rw [ex, ← Nat.add_assoc, ← Nat.add_assoc]
      rfl
    · have cm' : madeB x.f0 = false := by simpa using cm
      rw [if_neg cm]
      have f2 := tn cm'
      rw [f2] at h' hbody
      obtain rfl : i + 1 = e := Option.some.inj h'
      have hbody : x.f1 = body := by rw [← hbody]; simp [derK]
      have ed : (b.drop (X.length + 1 + (lenB body.length).length)).take body.length = x.f1 := by
        rw [hbb, ← hXl, List.drop_left, List.take_left, hbody]
      have ex : (⟨x.f0, x.f1, 0⟩ : S52) = x := by rw [← f2]
      rw [part_one, hx, hlen, ed, ex, ← Nat.add_assoc, ← Nat.add_assoc]
theorem readDer_der {l : List S52} (h : TreeB l) (hd : (der l 13 0).length ≤ 4000) (hp : partL l 0 l.length = l) : readDer (der l 13 0) = (l, 0, 0) := by
  have hg : GoodL l := fun j hj => allItems_at h.ha j hj
  have r := rdItem_der hg (b := der l 13 0) (by omega) 13 0 l.length h.hs [] [] (der l 13 0).length (by simp) (by simp)
  rw [hp] at r
  simp only [List.length_nil, Nat.zero_add] at r
  unfold readDer
  rw [if_neg (by omega), r]
  have := h.h300
  simp only
  rw [if_neg (by omega), if_neg (by omega)]
theorem lenB_range (n : Nat) : ∀ x ∈ lenB n, 0 ≤ x ∧ x ≤ 255 := by
  intro x hx
  unfold lenB at hx
  split at hx
  · simp only [List.mem_cons, List.not_mem_nil, or_false] at hx
    omega
  · split at hx
    · simp only [List.mem_cons, List.not_mem_nil, or_false] at hx
      omega
    · simp only [List.mem_cons, List.not_mem_nil, or_false] at hx
      omega
theorem derK_range {f : Nat → List Int} {s : Nat → Option Nat} (hf : ∀ i e, s i = some e → ∀ x ∈ f i, 0 ≤ x ∧ x ≤ 255) : ∀ (c n e : Nat), stepsN s c n = some e → ∀ x ∈ derK f s c n, 0 ≤ x ∧ x ≤ 255
  | 0, n, e, _, x, hx => by simp [derK] at hx
  | c + 1, n, e, h, x, hx => by
    unfold stepsN at h
    cases hs : s n with
    | none => rw [hs] at h; cases h
    | some m =>
      rw [hs] at h
      simp only [derK, hs, Option.getD_some, List.mem_append] at hx
      rcases hx with hx | hx
      · exact hf n m hs x hx
      · exact derK_range hf c m e h x hx
theorem der_range {l : List S52} (hb : ∀ j : Nat, j < l.length → ∀ y ∈ (rd_T52 l (j : Int)).f1, 0 ≤ y ∧ y ≤ 255) : ∀ (g i e : Nat), sk l g i = some e → ∀ x ∈ der l g i, 0 ≤ x ∧ x ≤ 255
  | 0, i, e, h, x, hx => by cases h
  | g + 1, i, e, h, x, hx => by
    have hle := sk_le l _ _ _ h
    unfold sk at h
    rw [if_pos (by omega)] at h
    unfold der derW at hx
    simp only [List.mem_cons, List.mem_append] at hx
    rcases hx with hx | hx | hx | hx
    · omega
    · exact lenB_range _ x hx
    · exact hb i (by omega) x hx
    · exact derK_range (fun i' e' h' => der_range hb g i' e' h') _ _ _ h x hx
/-! ### parts of a tree are trees -/
theorem rd_part {l : List S52} {a E j : Nat} (hE : E ≤ l.length) (hj : a + j < E) : rd_T52 (partL l a E) (j : Int) = rd_T52 l ((a + j : Nat) : Int) := by
  have hl : (partL l a E).length = E - a := part_length l a E
  rw [rd52' (by omega)]
  simp [partL]
theorem part_all (l : List S52) : partL l 0 l.length = l := by
  apply List.ext_getElem
  · rw [part_length]
    rfl
  · intro i h1 h2
    have := rd_part (l := l) (a := 0) (E := l.length) (j := i) (Nat.le_refl _) (by omega)
    rw [rd52' h1, Nat.zero_add, rd52' h2] at this
    exact this
theorem steps_part {f f' : Nat → Option Nat} {a E N : Nat} (hN : ∀ i e, f i = some e → i < e ∧ e ≤ N) (hf : ∀ i e, f i = some e → a ≤ i → e ≤ E → f' (i - a) = some (e - a)) : ∀ (c n e : Nat), stepsN f c n = some e → n ≤ N → a ≤ n → e ≤ E → stepsN f' c (n - a) = some (e - a)
  | 0, n, e, h, _, _, _ => by
    obtain rfl : n = e := Option.some.inj h
    rfl
  | c + 1, n, e, h, hnN, ha, hE => by
    unfold stepsN at h ⊢
    cases hx : f n with
    | none => rw [hx] at h; cases h
    | some m =>
      rw [hx] at h
      have h1 := hN _ _ hx
      have h2 := stepsN_le hN c m e (by omega) h
      rw [hf n m hx ha (by omega)]
      exact steps_part hN hf c m e h (by omega) (by omega) hE
theorem sk_part (l : List S52) {a E : Nat} (hE : E ≤ l.length) : ∀ (g i e : Nat), sk l g i = some e → a ≤ i → e ≤ E → sk (partL l a E) g (i - a) = some (e - a)
  | 0, i, e, h, _, _ => by cases h
  | g + 1, i, e, h, ha, he => by
    have hle := sk_le l _ _ _ h
    unfold sk at h ⊢
    rw [if_pos (by omega)] at h
    rw [part_length, if_pos (by omega), rd_part hE (by omega), show a + (i - a) = i by omega, show i - a + 1 = i + 1 - a by omega]
    exact steps_part (sk_le l g) (fun i' e' h' => sk_part l hE g i' e' h') _ _ _ h (by omega) (by omega) he
theorem part_tree {l : List S52} (h : TreeB l) {i e : Nat} (hs : sk l 13 i = some e) : TreeB (partL l i e) := by
  have hle := sk_le l _ _ _ hs
  have h3 := h.h300
  have hl := part_length l i e
  refine ⟨?_, by omega, by omega, ?_⟩
  · unfold allItems
    rw [List.all_eq_true]
    intro j hj
    have := List.mem_range.1 hj
    show itemB (rd_T52 (partL l i e) (j : Int)) = true
    rw [rd_part hle.2 (by omega)]
    exact allItems_at h.ha _ (by omega)
  · have := sk_part l hle.2 13 i e hs (Nat.le_refl _) (Nat.le_refl _)
    rw [Nat.sub_self] at this
    rw [this, hl]
/-! ### TreeOk of a tree; its children -/
theorem treeOk_yes {l : List S52} (h : TreeB l) : Ev (fun k => impl_TreeOk.f k l) true := by
  have h3 := h.h300
  have h1 := h.h1
  have key : ∀ d i : Nat, i + d = l.length → Ev (fun k => slices_IndexFunc_at43.l0 k l (l.length : Int) (i : Int)) (-1) := by
    intro d
    induction d with
    | zero =>
      intro i hi
      exact Ev.step (fun k => slices_IndexFunc_at43.l0.eq_2 _ _ _ _) (ev_neg (by omega) (Ev.now _))
    | succ d ih =>
      intro i hi
      have hx := item_impl (rd_T52 l (i : Int))
      rw [allItems_at h.ha i (by omega)] at hx
      refine Ev.step (fun k => slices_IndexFunc_at43.l0.eq_2 _ _ _ _) (ev_pos (by omega) (ev_pos (by omega) (ev_pos (by omega) (Ev.bind (a := false) (Ev.bind hx (Ev.now _)) (ev_neg (by simp) ?_)))))
      rw [Base.w64 (by omega) (by omega)]
      exact ih (i + 1) (by omega)
  have hany : Ev (fun k => slices_ContainsFunc_at43.f k l) false := Ev.bind (key l.length 0 (by omega)) (Ev.now _)
  have r := skip_sk l (by omega) h.ha 13 0 0 (by omega) (by omega) (by omega)
  rw [h.hs] at r
  refine ev_bindc (within_eq _ _ _) (ev_pos (decide_eq_true (by omega)) (Ev.bind hany (ev_neg (by simp) (Ev.bind r ?_))))
  rw [show (oi (some l.length) == (l.length : Int)) = true from beq_self_eq_true _]
  exact Ev.now _
/-! ### what is read is written as just these bytes -/
theorem cut_cons {b : List Int} {i n : Nat} (h : i < b.length) : (b.drop i).take (n + 1) = at8 b i :: (b.drop (i + 1)).take n := by
  rw [List.drop_eq_getElem_cons h, List.take_succ_cons, at8_eq, List.getD_eq_getElem?_getD, List.getElem?_eq_getElem h]
  rfl
theorem cut_split {b : List Int} {i m e : Nat} (h1 : i ≤ m) (h2 : m ≤ e) : (b.drop i).take (e - i) = (b.drop i).take (m - i) ++ (b.drop m).take (e - m) := by
  have e1 : e - i = (m - i) + (e - m) := by omega
  rw [e1, List.take_add, List.drop_drop, show i + (m - i) = m by omega]
theorem at8_range {b : List Int} (hb : ∀ x ∈ b, 0 ≤ x ∧ x ≤ 255) (j : Nat) : 0 ≤ at8 b j ∧ at8 b j ≤ 255 := by
  rw [at8_eq, List.getD_eq_getElem?_getD]
  cases hj : b[j]? with
  | none => simp
  | some x => exact hb x (List.mem_of_getElem? hj)
theorem head_spec {b : List Int} (hb : ∀ x ∈ b, 0 ≤ x ∧ x ≤ 255) {i e g : Nat} {tag : Int} {f s : Nat} (he : e ≤ b.length) (h : head b i e g = .ok (tag, f, s)) :
    (b.drop i).take (f - i) = (tag % 256) :: lenB s ∧ tag % 32 ≠ 31 ∧ 0 ≤ tag ∧ tag ≤ 255 := by
  have r0 := at8_range hb i
  have r1 := at8_range hb (i + 1)
  have r2 := at8_range hb (i + 2)
  have r3 := at8_range hb (i + 3)
  have hfin : ∀ (q : Nat) (t : Int), headFin (at8 b i) i e q t = .ok (tag, f, s) → f = q ∧ s = t.toNat ∧ tag = at8 b i := by
    intro q t hf
    unfold headFin at hf
    by_cases c : (e : Int) < (q : Int) + t
    · rw [if_pos c] at hf
      cases hf
    · rw [if_neg c] at hf
      injection hf with hf
      injection hf with h1 h2
      injection h2 with h2 h3
      exact ⟨h2.symm, h3.symm, h1.symm⟩
  unfold head at h
  by_cases c1 : e ≤ i
  · rw [if_pos c1] at h
    cases h
  rw [if_neg c1] at h
  by_cases c2 : at8 b i % 32 = 31
  · rw [if_pos c2] at h
    cases h
  rw [if_neg c2] at h
  by_cases c3 : g = 0
  · rw [if_pos c3] at h
    cases h
  rw [if_neg c3] at h
  by_cases c4 : e ≤ i + 1
  · rw [if_pos c4] at h
    cases h
  rw [if_neg c4] at h
  by_cases c5 : at8 b (i + 1) < 128
  · rw [if_pos c5] at h
    obtain ⟨rfl, rfl, rfl⟩ := hfin _ _ h
    refine ⟨?_, c2, r0.1, r0.2⟩
    rw [show i + 2 - i = 1 + 1 by omega, cut_cons (by omega), cut_cons (n := 0) (by omega), List.take_zero]
    unfold lenB
    rw [if_pos (by omega), show at8 b i % 256 = at8 b i by omega]
    congr 2
    omega
  rw [if_neg c5] at h
  by_cases c6 : at8 b (i + 1) = 128 ∨ at8 b (i + 1) > 130
  · rw [if_pos c6] at h
    cases h
  rw [if_neg c6] at h
  by_cases c7 : at8 b (i + 1) = 129
  · rw [if_pos c7] at h
    by_cases c8 : e < i + 3
    · rw [if_pos c8] at h
      cases h
    rw [if_neg c8] at h
    by_cases c9 : at8 b (i + 2) < 128
    · rw [if_pos c9] at h
      cases h
    rw [if_neg c9] at h
    obtain ⟨rfl, rfl, rfl⟩ := hfin _ _ h
    refine ⟨?_, c2, r0.1, r0.2⟩
    rw [show i + 3 - i = 1 + 1 + 1 by omega, cut_cons (by omega), cut_cons (by omega), cut_cons (n := 0) (by omega), List.take_zero]
    unfold lenB
    rw [if_neg (by omega), if_pos (by omega), show at8 b i % 256 = at8 b i by omega, c7]
    congr 3
    show at8 b (i + 2) = _
    omega
  · rw [if_neg c7] at h
    by_cases c8 : e < i + 4
    · rw [if_pos c8] at h
      cases h
    rw [if_neg c8] at h
    by_cases c9 : at8 b (i + 2) * 256 + at8 b (i + 3) < 256
    · rw [if_pos c9] at h
      cases h
    rw [if_neg c9] at h
    obtain ⟨rfl, rfl, rfl⟩ := hfin _ _ h
    refine ⟨?_, c2, r0.1, r0.2⟩
    rw [show i + 4 - i = 1 + 1 + 1 + 1 by omega, cut_cons (by omega), cut_cons (by omega), cut_cons (by omega), cut_cons (n := 0) (by omega), List.take_zero]
    unfold lenB
    rw [if_neg (by omega), if_neg (by omega), show at8 b i % 256 = at8 b i by omega, show at8 b (i + 1) = 130 by omega]
    have q1 : (((at8 b (i + 2) * 256 + at8 b (i + 3)).toNat : Nat) : Int) / 256 % 256 = at8 b (i + 2) := by omega
    have q2 : (((at8 b (i + 2) * 256 + at8 b (i + 3)).toNat : Nat) : Int) % 256 = at8 b (i + 3) := by omega
    rw [q1, q2]
structure IB (N : Nat) (x : S52) : Prop where
  t0 : 0 ≤ x.f0
  t1 : x.f0 ≤ 255
  t31 : x.f0 % 32 ≠ 31
  made : madeB x.f0 = true → x.f1 = [] ∧ 0 ≤ x.f2 ∧ x.f2 ≤ (N : Int)
  leaf : madeB x.f0 = false → x.f2 = 0
theorem IB.mono {N M : Nat} {x : S52} (h : IB N x) (hm : N ≤ M) : IB M x := ⟨h.t0, h.t1, h.t31, fun hx => by
  have := h.made hx
  exact ⟨this.1, this.2.1, by omega⟩, h.leaf⟩
theorem IB.item {x : S52} (h : IB 300 x) : itemB x = true := by
  unfold itemB
  rw [decide_eq_true ⟨h.t0, h.t1⟩, decide_eq_true h.t31, Bool.true_and, Bool.true_and]
  cases hm : madeB x.f0 with
  | true =>
    have := h.made hm
    rw [if_pos rfl]
    exact decide_eq_true ⟨by rw [this.1]; rfl, this.2.1, this.2.2⟩
  | false =>
    rw [if_neg (by simp)]
    exact decide_eq_true (h.leaf hm)
/-- What an item that was read is, wherever its list stands. -/
def Told (b : List Int) (g i : Nat) (l : List S52) (nx : Nat) : Prop := (∀ pre post L : List S52, L = pre ++ (l ++ post) → sk L g pre.length = some (pre.length + l.length) ∧ der L g pre.length = (b.drop i).take (nx - i)) ∧ (∀ x ∈ l, IB l.length x) ∧ 1 ≤ l.length
theorem kids_told {b : List Int} (hb : ∀ x ∈ b, 0 ≤ x ∧ x ≤ 255) {g stop : Nat} (hs : stop ≤ b.length) (hf : ∀ i l nx, rdItem b g stop i = .ok (l, nx) → Told b g i l nx) :
    ∀ (n next : Nat) (l : List S52) (c : Nat), rdKids (rdItem b g stop) stop n next = .ok (l, c) → next ≤ stop → stop ≤ next + n →
    (∀ pre post L : List S52, L = pre ++ (l ++ post) → stepsN (sk L g) c pre.length = some (pre.length + l.length) ∧ derK (der L g) (sk L g) c pre.length = (b.drop next).take (stop - next)) ∧ (∀ x ∈ l, IB l.length x) ∧ c ≤ l.length := by
  intro n
  induction n with
  | zero =>
    intro next l c h h1 h2
    unfold rdKids at h
    injection h with h
    injection h with q1 q2
    subst q1 q2
    refine ⟨fun pre post L _ => ⟨rfl, ?_⟩, by simp, Nat.le_refl _⟩
    rw [show stop - next = 0 by omega, List.take_zero]
    rfl
  | succ n ih =>
    intro next l c h h1 h2
    unfold rdKids at h
    by_cases c1 : next < stop
    · rw [if_pos c1] at h
      cases e1 : rdItem b g stop next with
      | error x =>
        rw [e1] at h
        cases h
      | ok y =>
        obtain ⟨l1, nx⟩ := y
        rw [e1] at h
        simp only at h
        cases e2 : rdKids (rdItem b g stop) stop n nx with
        | error x =>
          rw [e2] at h
          cases h
        | ok z =>
          obtain ⟨l2, c2⟩ := z
          rw [e2] at h
          simp only at h
          injection h with h
          injection h with q1 q2
          subst q1 q2
          have hn := rdItem_ok hb _ _ _ _ _ e1
          obtain ⟨t1, t2, t3⟩ := hf _ _ _ e1
          obtain ⟨k1, k2, k3⟩ := ih nx l2 c2 e2 hn.2.1 (by omega)
          refine ⟨fun pre post L hL => ?_, fun x hx => ?_, by rw [List.length_append]; omega⟩
          · have hL1 : L = pre ++ (l1 ++ (l2 ++ post)) := by rw [hL]; simp
            have hL2 : L = (pre ++ l1) ++ (l2 ++ post) := by rw [hL]; simp
            obtain ⟨a1, a2⟩ := t1 pre _ L hL1
            obtain ⟨b1, b2⟩ := k1 (pre ++ l1) post L hL2
            rw [List.length_append] at b1 b2
            refine ⟨?_, ?_⟩
            · unfold stepsN
              rw [a1]
              show stepsN (sk L g) c2 (pre.length + l1.length) = _
              rw [b1, List.length_append, Nat.add_assoc]
            · simp only [derK, a1, Option.getD_some]
              rw [a2, b2, ← cut_split (by omega) hn.2.1]
          · rw [List.length_append]
            rcases List.mem_append.1 hx with hx | hx
            · exact (t2 x hx).mono (by omega)
            · exact (k2 x hx).mono (by omega)
    · rw [if_neg c1] at h
      injection h with h
      injection h with q1 q2
      subst q1 q2
      refine ⟨fun pre post L _ => ⟨rfl, ?_⟩, by simp, Nat.le_refl _⟩
      rw [show stop - next = 0 by omega, List.take_zero]
      rfl
theorem item_told {b : List Int} (hb : ∀ x ∈ b, 0 ≤ x ∧ x ≤ 255) : ∀ (g e i : Nat) (l : List S52) (nx : Nat), e ≤ b.length → rdItem b g e i = .ok (l, nx) → Told b g i l nx
  | 0, e, i, l, nx, he, h => by
    unfold rdItem at h
    cases hh : head b i e 0 with
    | error x =>
      rw [hh] at h
      cases h
    | ok y =>
      rw [hh] at h
      cases h
  | g + 1, e, i, l, nx, he, h => by
    unfold rdItem at h
    cases hh : head b i e (g + 1) with
    | error x =>
      rw [hh] at h
      cases h
    | ok y =>
      obtain ⟨tag, f, s⟩ := y
      rw [hh] at h
      simp only at h
      obtain ⟨p1, p2, p3, p4⟩ := head_spec hb he hh
      obtain ⟨o1, o2, o3, o4, o5⟩ := head_ok hb hh
      have hmT : madeT tag = madeB tag := rfl
      rw [hmT] at h
      have hwhole : (b.drop i).take (f + s - i) = derW tag ((b.drop f).take s) := by
        have hl : ((b.drop f).take s).length = s := by rw [List.length_take, List.length_drop]; omega
        unfold derW
        rw [hl, cut_split (show i ≤ f by omega) (show f ≤ f + s by omega), p1, show f + s - f = s by omega]
        rfl
      by_cases cm : madeB tag = true
      · rw [if_pos cm] at h
        cases e2 : rdKids (rdItem b g (f + s)) (f + s) s f with
        | error x =>
          rw [e2] at h
          cases h
        | ok z =>
          obtain ⟨l2, c2⟩ := z
          rw [e2] at h
          simp only at h
          injection h with h
          injection h with q1 q2
          subst q1 q2
          obtain ⟨k1, k2, k3⟩ := kids_told hb (g := g) (stop := f + s) (by omega) (fun i' l' nx' h' => item_told hb g _ i' l' nx' (by omega) h') s f l2 c2 e2 (by omega) (by omega)
          refine ⟨fun pre post L hL => ?_, fun x hx => ?_, by simp⟩
          · have hL1 : L = pre ++ (⟨tag, [], (c2 : Int)⟩ : S52) :: (l2 ++ post) := by rw [hL]; simp
            have hx0 : rd_T52 L (pre.length : Int) = ⟨tag, [], (c2 : Int)⟩ := by rw [hL1, rd52_app]
            obtain ⟨b1, b2⟩ := k1 (pre ++ [⟨tag, [], (c2 : Int)⟩]) post L (by rw [hL1]; simp)
            rw [List.length_append, List.length_singleton] at b1 b2
            refine ⟨?_, ?_⟩
            · unfold sk
              rw [if_pos (by rw [hL1]; simp), hx0]
              show stepsN (sk L g) ((c2 : Int)).toNat _ = _
              rw [Int.toNat_natCast, b1, List.length_cons]
              congr 1
              omega
            · unfold der
              rw [hx0]
              show derW tag ([] ++ derK (der L g) (sk L g) ((c2 : Int)).toNat _) = _
              rw [Int.toNat_natCast, List.nil_append, b2, show f + s - f = s by omega, hwhole]
          · rcases List.mem_cons.1 hx with rfl | hx
            · exact ⟨p3, p4, p2, fun _ => ⟨rfl, by show (0 : Int) ≤ (c2 : Int); omega, by rw [List.length_cons]; show (c2 : Int) ≤ _; omega⟩, fun hn => by rw [show madeB tag = true from cm] at hn; cases hn⟩
            · exact (k2 x hx).mono (by rw [List.length_cons]; omega)
      · rw [if_neg cm] at h
        injection h with h
        injection h with q1 q2
        subst q1 q2
        refine ⟨fun pre post L hL => ?_, fun x hx => ?_, by simp⟩
        · have hL1 : L = pre ++ (⟨tag, (b.drop f).take s, 0⟩ : S52) :: post := by rw [hL]; simp
          have hx0 : rd_T52 L (pre.length : Int) = ⟨tag, (b.drop f).take s, 0⟩ := by rw [hL1, rd52_app]
          refine ⟨?_, ?_⟩
          · unfold sk
            rw [if_pos (by rw [hL1]; simp), hx0]
            rfl
          · unfold der
            rw [hx0]
            show derW tag ((b.drop f).take s ++ derK (der L g) (sk L g) 0 _) = _
            rw [hwhole]
            simp only [derK, List.append_nil]
        · rw [List.mem_singleton.1 hx]
          exact ⟨p3, p4, p2, fun hn => absurd hn cm, fun _ => rfl⟩
/-- A fault's code is none of what is well, and its place is within. -/
theorem head_err {b : List Int} {i e g : Nat} {x : Int × Int} (hi : i ≤ e) (h : head b i e g = .error x) : x.1 ≠ 0 ∧ 0 ≤ x.2 ∧ x.2 ≤ (e : Int) := by
  have hfin : ∀ (q : Nat) (t : Int), headFin (at8 b i) i e q t = .error x → x.1 ≠ 0 ∧ 0 ≤ x.2 ∧ x.2 ≤ (e : Int) := by
    intro q t hf
    unfold headFin at hf
    by_cases c : (e : Int) < (q : Int) + t
    · rw [if_pos c] at hf
      injection hf with hf
      subst hf
      exact ⟨by show (2 : Int) ≠ 0; decide, by show (0 : Int) ≤ (i : Int); omega, by show (i : Int) ≤ (e : Int); omega⟩
    · rw [if_neg c] at hf
      cases hf
  unfold head at h
  repeat' split at h
  all_goals first
    | exact hfin _ _ h
    | (injection h with h
       subst h
       refine ⟨?_, by show (0 : Int) ≤ _; omega, by show _ ≤ (e : Int); omega⟩
       simp)
theorem kids_err {f : Nat → Except (Int × Int) (List S52 × Nat)} {stop : Nat} (hf : ∀ i x, i ≤ stop → f i = .error x → x.1 ≠ 0 ∧ 0 ≤ x.2 ∧ x.2 ≤ (stop : Int)) : ∀ (n next : Nat) (x : Int × Int), rdKids f stop n next = .error x → x.1 ≠ 0 ∧ 0 ≤ x.2 ∧ x.2 ≤ (stop : Int) := by
  intro n
  induction n with
  | zero =>
    intro next x h
    cases h
  | succ n ih =>
    intro next x h
    unfold rdKids at h
    by_cases c : next < stop
    · rw [if_pos c] at h
      cases e1 : f next with
      | error y =>
        rw [e1] at h
        injection h with h
        subst h
        exact hf next _ (by omega) e1
      | ok y =>
        obtain ⟨l1, nx⟩ := y
        rw [e1] at h
        simp only at h
        cases e2 : rdKids f stop n nx with
        | error z =>
          rw [e2] at h
          injection h with h
          subst h
          exact ih nx _ e2
        | ok z =>
          rw [e2] at h
          cases h
    · rw [if_neg c] at h
      cases h
theorem item_err {b : List Int} (hb : ∀ x ∈ b, 0 ≤ x ∧ x ≤ 255) : ∀ (g e i : Nat) (x : Int × Int), i ≤ e → rdItem b g e i = .error x → x.1 ≠ 0 ∧ 0 ≤ x.2 ∧ x.2 ≤ (e : Int)
  | 0, e, i, x, hi, h => by
    unfold rdItem at h
    cases hh : head b i e 0 with
    | error y =>
      rw [hh] at h
      injection h with h
      subst h
      exact head_err hi hh
    | ok y =>
      obtain ⟨tag, f, s⟩ := y
      exact absurd rfl (head_ok hb hh).2.2.2.2
  | g + 1, e, i, x, hi, h => by
    unfold rdItem at h
    cases hh : head b i e (g + 1) with
    | error y =>
      rw [hh] at h
      injection h with h
      subst h
      exact head_err hi hh
    | ok y =>
      obtain ⟨tag, f, s⟩ := y
      have ho := head_ok hb hh
      rw [hh] at h
      simp only at h
      by_cases cm : madeT tag = true
      · rw [if_pos cm] at h
        cases e2 : rdKids (rdItem b g (f + s)) (f + s) s f with
        | error z =>
          rw [e2] at h
          injection h with h
          subst h
          have := kids_err (fun i' x' hi' h' => item_err hb g (f + s) i' x' hi' h') _ _ _ e2
          exact ⟨this.1, this.2.1, by omega⟩
        | ok z =>
          rw [e2] at h
          cases h
      · rw [if_neg cm] at h
        cases h
theorem sm_steps {l : List S52} {f : Nat → List Int} {s : Nat → Option Nat} (hf : ∀ i e, s i = some e → sm l e ≤ sm l i + (f i).length) : ∀ (c n e : Nat), stepsN s c n = some e → sm l e ≤ sm l n + (derK f s c n).length
  | 0, n, e, h => by
    obtain rfl : n = e := Option.some.inj h
    omega
  | c + 1, n, e, h => by
    unfold stepsN at h
    cases hx : s n with
    | none => rw [hx] at h; cases h
    | some m =>
      rw [hx] at h
      have h1 := hf n m hx
      have h2 := sm_steps hf c m e h
      simp only [derK, hx, Option.getD_some, List.length_append]
      omega
theorem sm_der {l : List S52} : ∀ (g i e : Nat), sk l g i = some e → sm l e ≤ sm l i + (der l g i).length
  | 0, i, e, h => by cases h
  | g + 1, i, e, h => by
    have hle := sk_le l _ _ _ h
    unfold sk at h
    rw [if_pos (by omega)] at h
    have h1 := sm_steps (fun i' e' h' => sm_der g i' e' h') _ _ _ h
    have h2 : sm l (i + 1) = sm l i + (rd_T52 l (i : Int)).f1.length := rfl
    unfold der derW
    rw [List.length_cons, List.length_append, List.length_append]
    omega
theorem wAll : WAll := by
  intro l hl hf
  obtain ⟨t, t1, t2, hT⟩ := treeOk_tree l (by omega)
  have hbb : ∀ j : Nat, j < l.length → (rd_T52 l (j : Int)).f1.length ≤ 1048576 := fun j hj => by
    rw [rd52' hj]
    have := (hf _ (List.getElem_mem hj)).1
    omega
  obtain ⟨k, hk⟩ := ev_k (specW_ev l (by omega) hbb t t1 hT)
  refine ⟨k, (writeDer l t).1, (writeDer l t).2, hk, ?_, ?_⟩
  · unfold writeDer
    split
    · next h => exact h.2.2
    · simp
  · unfold writeDer
    split
    · next h => exact der_range (fun j hj => by
        rw [rd52' hj]
        exact (hf _ (List.getElem_mem hj)).2) 13 0 _ (hT h.1).hs
    · simp
theorem sAll : SAll := by
  intro d hd hb
  by_cases c1 : d.length > 4000
  · refine .inl ⟨1, 0, ?_, by decide, by decide, by omega⟩
    unfold readDer
    rw [if_pos c1]
  cases e1 : rdItem d 13 d.length 0 with
  | error x =>
    obtain ⟨h1, h2, h3⟩ := item_err hb 13 d.length 0 x (Nat.zero_le _) e1
    refine .inl ⟨x.1, x.2, ?_, h1, h2, h3⟩
    unfold readDer
    rw [if_neg c1, e1]
  | ok y =>
    obtain ⟨r, nx⟩ := y
    have hn := rdItem_ok hb _ _ _ _ _ e1
    by_cases c2 : r.length > 300
    · refine .inl ⟨7, 0, ?_, by decide, by decide, by omega⟩
      unfold readDer
      rw [if_neg c1, e1]
      simp only
      rw [if_pos c2]
    by_cases c3 : nx < d.length
    · refine .inl ⟨5, (nx : Int), ?_, by decide, by omega, by omega⟩
      unfold readDer
      rw [if_neg c1, e1]
      simp only
      rw [if_neg c2, if_pos c3]
    have hnx : nx = d.length := by omega
    subst hnx
    obtain ⟨t1, t2, t3⟩ := item_told hb 13 d.length 0 r d.length (Nat.le_refl _) e1
    obtain ⟨hs, hder⟩ := t1 [] [] r (by simp)
    simp only [List.length_nil, Nat.zero_add, List.drop_zero, Nat.sub_zero, List.take_length] at hs hder
    have hit : ∀ j : Nat, j < r.length → itemB (rd_T52 r (j : Int)) = true := fun j hj => by
      rw [rd52' hj]
      exact ((t2 _ (List.getElem_mem hj)).mono (by omega)).item
    have T : TreeB r := ⟨by
      unfold allItems
      rw [List.all_eq_true]
      intro j hj
      exact hit j (List.mem_range.1 hj), t3, by omega, hs⟩
    obtain ⟨k, hk⟩ := ev_k (treeOk_yes T)
    have hsm := sm_der 13 0 _ hs
    rw [hder] at hsm
    have h0 : sm r 0 = 0 := rfl
    have hle : ∀ j : Nat, j < r.length → (rd_T52 r (j : Int)).f1.length ≤ 1048576 := fun j hj => by
      have h1 := sm_mono r (r.length - (j + 1)) (j + 1)
      rw [show j + 1 + (r.length - (j + 1)) = r.length by omega] at h1
      have h2 : sm r (j + 1) = sm r j + (rd_T52 r (j : Int)).f1.length := rfl
      omega
    refine .inr ⟨k, r, ?_, by omega, fun j hj => ⟨(itemB_kids (hit j hj)).1, (itemB_kids (hit j hj)).2.1⟩, hle, hk, hs, ?_⟩
    · unfold readDer
      rw [if_neg c1, e1]
      simp only
      rw [if_neg c2, if_neg c3]
    · unfold writeDer
      rw [if_pos ⟨rfl, by omega, by rw [hder]; omega⟩, hder]
theorem FnStrict (l : List Int) (hm : l.length ≤ maxLen) (h64 : l.length * 1 ≤ 140737488351232) (hwf : ∀ x ∈ l, (Lit.int .u8 x).wf = true) : ∃ k, LawOk k l true := by
  refine ⟨0, rfl, ?_⟩
  by_cases c : l.length > 1048576
  · exact .inl c
  · exact .inr ⟨by omega, wAll, sAll⟩

end Go.Proofs.Ytmeobalddjembaa.Pure
