/- The program's WriteDer returns what the reference's returns, for all arguments that the law lets in. -/
import Derived.Test.YtmeobalddjembaaGFnExactWriteDerx5
import Derived.Test.YtmeobalddjembaaBase
import Derived.Test.YtmeobalddjembaaItemsFnExactWriteDer
import Derived.Test.YtmeobalddjembaaGFnExactWriteDerHand
namespace Go.Proofs.Ytmeobalddjembaa.Pure
open Go.RowKit Go.Proofs.Ytmeobalddjembaa.GFnExactWriteDer Go.Proofs.YtmeobalddjembaaW.PrintWords Go.Proofs.YtmeobalddjembaaW.PrintLast Go.Proofs.Ytmeobalddjembaa.Base
set_option linter.unusedVariables false
set_option linter.unusedSimpArgs false

open Go.Proofs.Ytmeobalddjembaa.GFnExactWriteDer.Hand
/-! ### items: sizes, copies, comparison -/
def conv (x : S50) : S52 := ⟨x.f0, x.f1, x.f2⟩
theorem rd50 {l : List S50} {i : Nat} (h : i < l.length) : rd_T50 l (i : Int) = l[i] := by simp [rd_T50, h]
theorem rd52 {l : List S52} {i : Nat} (h : i < l.length) : rd_T52 l (i : Int) = l[i] := by simp [rd_T52, h]
theorem sz_ev (l : List S50) (hm : l.length ≤ maxLen) (hb : ∀ x ∈ l, x.f1.length ≤ maxLen) : ∃ v, Ev (fun k => laws_szItemS.f k l 1048576) v ∧ (¬ v < 0 → l.length ≤ 1048576 ∧ ∀ x ∈ l, x.f1.length ≤ 1048576) := by
  unfold maxLen at hm hb
  by_cases c : (1048576 : Int) - (l.length : Int) < 0
  · refine ⟨-1, ev_pos ?_ (Ev.now _), fun h => absurd (by decide) h⟩
    rw [w64 (by omega) (by omega)]
    exact c
  · have key : ∀ (d i : Nat) (a : Int), i + d = l.length → 0 ≤ a → a ≤ 1048576 → ∃ v, Ev (fun k => laws_szItemS.l0 k l a (i : Int)) v ∧ (¬ v < 0 → ∀ j, i ≤ j → (h : j < l.length) → (l[j]).f1.length ≤ 1048576) := by
      intro d
      induction d with
      | zero =>
        intro i a hi a0 a1
        exact ⟨a, Ev.step (fun k => laws_szItemS.l0.eq_2 _ _ _ _) (ev_neg (by omega) (Ev.now _)), fun _ j h1 h2 => by omega⟩
      | succ d ih =>
        intro i a hi a0 a1
        have hbi := hb _ (List.getElem_mem (show i < l.length by omega))
        have e1 : Aside0 (wrap64 (a - ((l[i]).f1.length : Int)) = a - ((l[i]).f1.length : Int)) := ⟨w64 (by omega) (by omega)⟩
        by_cases c2 : a - ((l[i]'(by omega)).f1.length : Int) < 0
        · have e2 : laws_szItem.f ((l[i]'(by omega)).f0) ((l[i]'(by omega)).f1) ((l[i]'(by omega)).f2) a = some (-1) := by
            unfold laws_szItem.f laws_szByteS.f
            rw [e1.out, if_pos c2]
            rfl
          refine ⟨-1, Ev.step (fun k => laws_szItemS.l0.eq_2 _ _ _ _) (ev_pos (by omega) (ev_pos (by omega) ?_)), fun h => absurd (by decide) h⟩
          rw [rd50 (by omega)]
          exact ev_bindc e2 (ev_pos (by decide) (Ev.now _))
        · have e2 : laws_szItem.f ((l[i]'(by omega)).f0) ((l[i]'(by omega)).f1) ((l[i]'(by omega)).f2) a = some (a - ((l[i]'(by omega)).f1.length : Int)) := by
            unfold laws_szItem.f laws_szByteS.f
            rw [e1.out, if_neg c2]
            simp only [Option.bind_some]
            rw [if_neg c2]
          obtain ⟨v, hv, hq⟩ := ih (i + 1) (a - ((l[i]'(by omega)).f1.length : Int)) (by omega) (by omega) (by omega)
          refine ⟨v, Ev.step (fun k => laws_szItemS.l0.eq_2 _ _ _ _) (ev_pos (by omega) (ev_pos (by omega) ?_)), fun h j h1 h2 => ?_⟩
          · rw [rd50 (by omega)]
            refine ev_bindc e2 (ev_neg c2 ?_)
            rw [w64 (x := (i : Int) + 1) (by omega) (by omega)]
            exact hv
          · by_cases e : j = i
            · subst e
              omega
            · exact hq h j (by omega) h2
    obtain ⟨v, hv, hq⟩ := key l.length 0 (1048576 - (l.length : Int)) (by omega) (by omega) (by omega)
    refine ⟨v, ev_neg (by rw [w64 (by omega) (by omega)]; exact c) ?_, fun h => ⟨by omega, fun x hx => ?_⟩⟩
    · rw [w64 (by omega) (by omega)]
      exact hv
    · obtain ⟨j, hj, rfl⟩ := List.mem_iff_getElem.1 hx
      exact hq h j (by omega) hj
theorem toByteS_ev (l : List Int) (hl : l.length ≤ 1048576) : Ev (fun k => laws_toByteS.f k l) l := by
  refine ev_pos (by omega) (ev_pos (by omega) ?_)
  rw [show ((l.length : Int) : Int).toNat = l.length by omega]
  exact copy_ev (L := laws_toByteS.l0) (fun _ _ _ _ => rfl) l (by omega)
theorem toItemS_ev (l : List S50) (hl : l.length ≤ 1048576) (hb : ∀ x ∈ l, x.f1.length ≤ 1048576) : Ev (fun k => laws_toItemS.f k l) (l.map conv) := by
  have key : ∀ (d i : Nat) (x3 : List S52), i + d = l.length → x3.length = l.length → (∀ j, j < i → x3[j]? = (l.map conv)[j]?) → Ev (fun k => laws_toItemS.l0 k l x3 (i : Int)) (l.map conv) := by
    intro d
    induction d with
    | zero =>
      intro i x3 hi hx hj
      refine Ev.step (fun k => laws_toItemS.l0.eq_2 _ _ _ _) (ev_neg (by omega) ?_)
      have : x3 = l.map conv := by
        apply List.ext_getElem?
        intro j
        by_cases hji : j < i
        · exact hj j hji
        · rw [List.getElem?_eq_none (by omega), List.getElem?_eq_none (by simp; omega)]
      rw [this]
      exact Ev.now _
    | succ d ih =>
      intro i x3 hi hx hj
      have hbi := hb _ (List.getElem_mem (show i < l.length by omega))
      refine Ev.step (fun k => laws_toItemS.l0.eq_2 _ _ _ _) (ev_pos (by omega) (ev_pos (by omega) ?_))
      rw [rd50 (by omega)]
      refine Ev.bind (a := ((l[i]'(by omega)).f0, (l[i]'(by omega)).f1, (l[i]'(by omega)).f2)) (Ev.bind (toByteS_ev _ hbi) (Ev.now _)) (ev_pos (by omega) ?_)
      rw [w64 (x := (i : Int) + 1) (by omega) (by omega)]
      refine ih (i + 1) _ (by omega) (by simp [hx]) ?_
      intro j hj'
      rw [List.getElem?_set, Int.toNat_natCast]
      by_cases e : i = j
      · subst e
        rw [if_pos rfl, if_pos (by omega), List.getElem?_map, List.getElem?_eq_getElem (by omega)]
        rfl
      · rw [if_neg e]
        exact hj j (by omega)
  refine ev_pos (by omega) (ev_pos (by omega) ?_)
  rw [show ((l.length : Int) : Int).toNat = l.length by omega]
  exact key l.length 0 _ (by omega) (by simp) (by intro j hj; omega)
theorem eqByteS_ev (l : List Int) (hl : l.length ≤ 1048577) : Ev (fun k => laws_eqByteS.f k l l) true :=
  ev_pos rfl (by simpa using eq_ev (L := laws_eqByteS.l0) (fun _ _ _ _ => rfl) l l (by omega) rfl)
theorem eqItemS_ev (l : List S52) (hl : l.length ≤ 1048577) (hb : ∀ x ∈ l, x.f1.length ≤ 1048577) : Ev (fun k => laws_eqItemS.f k l l) true := by
  refine ev_pos rfl ?_
  have key : ∀ (d i : Nat), i + d = l.length → Ev (fun k => laws_eqItemS.l0 k l l (i : Int)) true := by
    intro d
    induction d with
    | zero =>
      intro i hi
      exact Ev.step (fun k => laws_eqItemS.l0.eq_2 _ _ _ _) (ev_neg (by omega) (Ev.now _))
    | succ d ih =>
      intro i hi
      have hbi := hb _ (List.getElem_mem (show i < l.length by omega))
      refine Ev.step (fun k => laws_eqItemS.l0.eq_2 _ _ _ _) (ev_pos (by omega) (ev_pos (by omega) (ev_pos (by omega) ?_)))
      rw [rd52 (by omega)]
      refine Ev.bind (a := true) (ev_pos rfl (Ev.bind (eqByteS_ev _ hbi) (ev_pos rfl (ev_pos rfl (Ev.now _))))) (ev_pos rfl ?_)
      rw [w64 (x := (i : Int) + 1) (by omega) (by omega)]
      exact ih (i + 1) (by omega)
  exact key l.length 0 (by omega)
/-! ### TreeOk -/
theorem l1In_eq (x a b : Int) : spec_l1In.f x a b = some (decide (a ≤ x ∧ x ≤ b)) := by
  unfold spec_l1In.f
  by_cases h : x ≥ a
  · rw [if_pos h]; simp [show a ≤ x from h]
  · rw [if_neg h]; simp [show ¬ a ≤ x from h]
theorem within_eq (x a b : Int) : impl_within.f x a b = some (decide (a ≤ x ∧ x ≤ b)) := l1In_eq x a b
def madeB (t : Int) : Bool := decide (t / 32 % 2 = 1)
def itemB (x : S52) : Bool := decide (0 ≤ x.f0 ∧ x.f0 ≤ 255) && (decide (x.f0 % 32 ≠ 31) && (if madeB x.f0 = true then decide (x.f1.length = 0 ∧ 0 ≤ x.f2 ∧ x.f2 ≤ 300) else decide (x.f2 = 0)))
theorem l7Made_eq (t : Int) (h0 : 0 ≤ t) (h1 : t ≤ 255) : spec_l7Made.f t = some (madeB t) := by
  unfold spec_l7Made.f madeB
  rw [Int.tdiv_eq_ediv_of_nonneg h0, w64 (by omega) (by omega), Int.tmod_eq_emod_of_nonneg (by omega)]
  congr 1
theorem bits255 : ∀ n : Fin 256, ((Go.bits .and .i64 ((n.val : Nat) : Int) 31 == 31) = decide (((n.val : Nat) : Int) % 32 = 31)) ∧ ((Go.bits .and .i64 ((n.val : Nat) : Int) 32 != 0) = madeB ((n.val : Nat) : Int)) := by decide +kernel
theorem isMade_eq (t : Int) (h0 : 0 ≤ t) (h1 : t ≤ 255) : impl_isMade.f t = some (madeB t) := by
  obtain ⟨n, rfl⟩ := Int.eq_ofNat_of_zero_le h0
  unfold impl_isMade.f
  exact congrArg some (bits255 ⟨n, by omega⟩).2
theorem bits31 (t : Int) (h0 : 0 ≤ t) (h1 : t ≤ 255) : (Go.bits .and .i64 t 31 == 31) = decide (t % 32 = 31) := by
  obtain ⟨n, rfl⟩ := Int.eq_ofNat_of_zero_le h0
  exact (bits255 ⟨n, by omega⟩).1
theorem item_impl (x : S52) : Ev (fun k => impl_itemOk.f k x.f0 x.f1 x.f2) (itemB x) := by
  unfold itemB
  refine ev_bindc (within_eq _ _ _) ?_
  by_cases c : 0 ≤ x.f0 ∧ x.f0 ≤ 255
  · rw [decide_eq_true c, Bool.true_and]
    refine ev_pos rfl ?_
    rw [bits31 _ c.1 c.2]
    by_cases c2 : x.f0 % 32 = 31
    · rw [decide_eq_true c2, decide_eq_false (by simpa using c2), Bool.false_and]
      exact Ev.step (fun k => impl_itemOk.j0.eq_2 _ _ _ _ _) (ev_pos rfl (Ev.now _))
    · rw [decide_eq_false c2, decide_eq_true c2, Bool.true_and]
      refine Ev.step (fun k => impl_itemOk.j0.eq_2 _ _ _ _ _) (ev_neg (by simp) (ev_bindc (isMade_eq _ c.1 c.2) ?_))
      cases hm : madeB x.f0 with
      | true =>
        have hI : (if (true : Bool) = true then decide (x.f1.length = 0 ∧ 0 ≤ x.f2 ∧ x.f2 ≤ 300) else decide (x.f2 = 0)) = decide (x.f1.length = 0 ∧ 0 ≤ x.f2 ∧ x.f2 ≤ 300) := if_pos rfl
        rw [hI]
        refine ev_pos rfl ?_
        by_cases c3 : (x.f1.length : Int) = 0
        · refine ev_pos c3 (ev_bindc (within_eq _ _ _) ?_)
          rw [show decide (x.f1.length = 0 ∧ 0 ≤ x.f2 ∧ x.f2 ≤ 300) = decide (0 ≤ x.f2 ∧ x.f2 ≤ 300) by rw [decide_eq_decide]; omega]
          exact Ev.now _
        · rw [decide_eq_false (by omega)]
          exact ev_neg c3 (Ev.now _)
      | false =>
        have hI : (if (false : Bool) = true then decide (x.f1.length = 0 ∧ 0 ≤ x.f2 ∧ x.f2 ≤ 300) else decide (x.f2 = 0)) = decide (x.f2 = 0) := if_neg (by simp)
        rw [hI]
        exact ev_neg (by simp) (Ev.now _)
  · rw [decide_eq_false c, Bool.false_and]
    exact ev_neg (by simp) (Ev.step (fun k => impl_itemOk.j0.eq_2 _ _ _ _ _) (ev_pos rfl (Ev.now _)))
def allItems (l : List S52) : Bool := (List.range l.length).all (fun i => itemB (rd_T52 l (i : Int)))
theorem itemB_kids {x : S52} (h : itemB x = true) : 0 ≤ x.f2 ∧ x.f2 ≤ 300 ∧ 0 ≤ x.f0 ∧ x.f0 ≤ 255 := by
  unfold itemB at h
  have h0 := of_decide_eq_true (Bool.and_eq_true_iff.1 h).1
  have h := (Bool.and_eq_true_iff.1 (Bool.and_eq_true_iff.1 h).2).2
  by_cases c : madeB x.f0 = true
  · rw [if_pos c] at h
    have := of_decide_eq_true h
    omega
  · rw [if_neg c] at h
    have := of_decide_eq_true h
    omega
theorem allItems_at {l : List S52} (h : allItems l = true) (i : Nat) (hi : i < l.length) : itemB (rd_T52 l (i : Int)) = true := List.all_eq_true.1 h i (List.mem_range.2 hi)
/-- the place behind an item with all below it: both programs' -/
theorem skip_both (l : List S52) (hl : l.length ≤ 1048576) (ha : allItems l = true) : ∀ (g : Nat) (deep : Int) (i : Nat), 0 ≤ deep → deep + g = 13 → i ≤ l.length →
    ∃ r : Int, Ev (fun k => impl_skip.f k l (i : Int) deep) r ∧ Ev (fun k => spec_l7End.f k l (i : Int) deep) r ∧ (r = -1 ∨ (i : Int) < r ∧ r ≤ l.length) := by
  intro g
  induction g with
  | zero =>
    intro deep i h0 hg hi
    have a : Ev (fun k => impl_skip.j0 k l (i : Int) deep true) (-1) := Ev.step (fun k => impl_skip.j0.eq_2 _ _ _ _ _) (ev_pos rfl (Ev.now _))
    have b : Ev (fun k => spec_l7End.j0 k l (i : Int) deep true) (-1) := Ev.step (fun k => spec_l7End.j0.eq_2 _ _ _ _ _) (ev_pos rfl (Ev.now _))
    refine ⟨-1, Ev.step (fun k => impl_skip.f.eq_2 _ _ _ _) ?_, Ev.step (fun k => spec_l7End.f.eq_2 _ _ _ _) ?_, .inl rfl⟩
    · by_cases c : (i : Int) ≥ (l.length : Int)
      · exact ev_pos c a
      · refine ev_neg c ?_
        rw [decide_eq_true (by omega)]
        exact a
    · by_cases c : (i : Int) ≥ (l.length : Int)
      · exact ev_pos c b
      · refine ev_neg c ?_
        rw [decide_eq_true (by omega)]
        exact b
  | succ g ih =>
    intro deep i h0 hg hi
    by_cases c : (i : Int) ≥ (l.length : Int)
    · exact ⟨-1, Ev.step (fun k => impl_skip.f.eq_2 _ _ _ _) (ev_pos c (Ev.step (fun k => impl_skip.j0.eq_2 _ _ _ _ _) (ev_pos rfl (Ev.now _)))),
        Ev.step (fun k => spec_l7End.f.eq_2 _ _ _ _) (ev_pos c (Ev.step (fun k => spec_l7End.j0.eq_2 _ _ _ _ _) (ev_pos rfl (Ev.now _)))), .inl rfl⟩
    have hk := itemB_kids (allItems_at ha i (by omega))
    have key : ∀ (d : Nat) (n : Nat) (c : Int), 0 ≤ c → c + d = (rd_T52 l (i : Int)).f2 → i < n → n ≤ l.length →
        ∃ r : Int, Ev (fun k => impl_skip.l0 k l deep (n : Int) ((rd_T52 l (i : Int)).f2) c) r ∧ Ev (fun k => spec_l7End.l0 k l (i : Int) deep (n : Int) c) r ∧ (r = -1 ∨ (i : Int) < r ∧ r ≤ l.length) := by
      intro d
      induction d with
      | zero =>
        intro n c c0 hc hn hn2
        exact ⟨n, Ev.step (fun k => impl_skip.l0.eq_2 _ _ _ _ _ _) (ev_neg (by omega) (Ev.now _)), Ev.step (fun k => spec_l7End.l0.eq_2 _ _ _ _ _ _) (ev_pos (by omega) (ev_pos (by omega) (ev_neg (by omega) (Ev.now _)))), .inr ⟨by omega, by omega⟩⟩
      | succ d ihd =>
        intro n c c0 hc hn hn2
        have ed : Aside0 (wrap64 (deep + 1) = deep + 1) := ⟨w64 (by omega) (by omega)⟩
        have ec : Aside0 (wrap64 (c + 1) = c + 1) := ⟨w64 (by omega) (by omega)⟩
        obtain ⟨r, r1, r2, r3⟩ := ih (deep + 1) n (by omega) (by omega) hn2
        rcases r3 with rfl | ⟨r3, r4⟩
        · refine ⟨-1, Ev.step (fun k => impl_skip.l0.eq_2 _ _ _ _ _ _) (ev_pos (by omega) ?_), Ev.step (fun k => spec_l7End.l0.eq_2 _ _ _ _ _ _) (ev_pos (by omega) (ev_pos (by omega) (ev_pos (by omega) ?_))), .inl rfl⟩
          · rw [ed.out]
            exact Ev.bind r1 (ev_pos (by decide) (Ev.now _))
          · rw [ed.out]
            exact Ev.bind r2 (ev_pos (by decide) (Ev.now _))
        · obtain ⟨m, rfl⟩ := Int.eq_ofNat_of_zero_le (show 0 ≤ r by omega)
          obtain ⟨q, q1, q2, q3⟩ := ihd m (c + 1) (by omega) (by omega) (by omega) (by omega)
          refine ⟨q, Ev.step (fun k => impl_skip.l0.eq_2 _ _ _ _ _ _) (ev_pos (by omega) ?_), Ev.step (fun k => spec_l7End.l0.eq_2 _ _ _ _ _ _) (ev_pos (by omega) (ev_pos (by omega) (ev_pos (by omega) ?_))), q3⟩
          · rw [ed.out, ec.out]
            exact Ev.bind r1 (ev_neg (by omega) q1)
          · rw [ed.out, ec.out]
            exact Ev.bind r2 (ev_neg (by omega) q2)
    obtain ⟨r, r1, r2, r3⟩ := key ((rd_T52 l (i : Int)).f2).toNat (i + 1) 0 (by omega) (by omega) (by omega) (by omega)
    have ei : Aside0 (wrap64 ((i : Int) + 1) = ((i + 1 : Nat) : Int)) := ⟨by rw [w64 (by omega) (by omega)]; rfl⟩
    refine ⟨r, Ev.step (fun k => impl_skip.f.eq_2 _ _ _ _) (ev_neg c ?_), Ev.step (fun k => spec_l7End.f.eq_2 _ _ _ _) (ev_neg c ?_), r3⟩
    · rw [decide_eq_false (by omega)]
      refine Ev.step (fun k => impl_skip.j0.eq_2 _ _ _ _ _) (ev_neg (by simp) (ev_pos (by omega) (ev_pos (by omega) ?_)))
      rw [ei.out]
      exact r1
    · rw [decide_eq_false (by omega)]
      refine Ev.step (fun k => spec_l7End.j0.eq_2 _ _ _ _ _) (ev_neg (by simp) ?_)
      rw [ei.out]
      exact r2
theorem item_spec (x : S52) {L : Nat → Option Bool} {r : Bool} (hL : itemB x = true → Ev L r) (hN : itemB x = false → r = false) :
    Ev (fun k => (spec_l1In.f x.f0 0 255).bind fun t111 => (if t111 = true then (if (Int.tmod x.f0 32) = 31 then (some false) else ((spec_l1In.f x.f2 0 300).bind fun t112 => (if t112 = true then ((spec_l7Made.f x.f0).bind fun t113 => (if t113 = true then (if (x.f1.length : Int) > 0 then (some false) else (L k)) else (if x.f2 > 0 then (some false) else (L k)))) else (some false)))) else (some false))) r := by
  have no : itemB x = false → ∀ {g : Nat → Option Bool}, (∀ k, g k = some false) → Ev g r := fun h g hg => by rw [hN h]; exact ev_eq hg
  unfold itemB at hL no
  refine ev_bindc (l1In_eq _ _ _) ?_
  by_cases c : 0 ≤ x.f0 ∧ x.f0 ≤ 255
  · rw [decide_eq_true c, Bool.true_and] at hL no
    rw [decide_eq_true c]
    refine ev_pos rfl ?_
    rw [Int.tmod_eq_emod_of_nonneg c.1]
    by_cases c2 : x.f0 % 32 = 31
    · exact ev_pos c2 (no (by rw [decide_eq_false (by simpa using c2), Bool.false_and]) (fun _ => rfl))
    · rw [decide_eq_true c2, Bool.true_and] at hL no
      refine ev_neg c2 (ev_bindc (l1In_eq _ _ _) ?_)
      by_cases c3 : 0 ≤ x.f2 ∧ x.f2 ≤ 300
      · rw [decide_eq_true c3]
        refine ev_pos rfl (ev_bindc (l7Made_eq _ c.1 c.2) ?_)
        cases hm : madeB x.f0 with
        | true =>
          rw [hm, if_pos rfl] at hL no
          refine ev_pos rfl ?_
          by_cases c4 : (x.f1.length : Int) > 0
          · exact ev_pos c4 (no (decide_eq_false (by omega)) (fun _ => rfl))
          · exact ev_neg c4 (hL (decide_eq_true (by omega)))
        | false =>
          rw [hm, if_neg (by simp)] at hL no
          refine ev_neg (by simp) ?_
          by_cases c4 : x.f2 > 0
          · exact ev_pos c4 (no (decide_eq_false (by omega)) (fun _ => rfl))
          · exact ev_neg c4 (hL (decide_eq_true (by omega)))
      · rw [decide_eq_false c3]
        refine ev_neg (by simp) (no ?_ (fun _ => rfl))
        by_cases hm : madeB x.f0 = true
        · rw [if_pos hm]
          exact decide_eq_false (by omega)
        · rw [if_neg hm]
          exact decide_eq_false (by omega)
  · rw [decide_eq_false c]
    exact ev_neg (by simp) (no (by rw [decide_eq_false c, Bool.false_and]) (fun _ => rfl))
theorem treeOk_both (l : List S52) (hl : l.length ≤ 1048576) : ∃ r : Bool, Ev (fun k => spec_TreeOk.f k l) r ∧ Ev (fun k => impl_TreeOk.f k l) r ∧ (r = true → allItems l = true ∧ 1 ≤ l.length ∧ l.length ≤ 300 ∧ Ev (fun k => impl_skip.f k l 0 0) (l.length : Int)) := by
  by_cases c : 1 ≤ (l.length : Int) ∧ (l.length : Int) ≤ 300
  · have any : ∃ t : Int, Ev (fun k => slices_IndexFunc_at43.f k l) t ∧ decide (t ≥ 0) = !(allItems l) := by
      have key : ∀ d i : Nat, i + d = l.length → (∀ j : Nat, j < i → itemB (rd_T52 l (j : Int)) = true) → ∃ r, Ev (fun k => slices_IndexFunc_at43.l0 k l (l.length : Int) (i : Int)) r ∧ decide (r ≥ 0) = !(allItems l) := by
        intro d
        induction d with
        | zero =>
          intro i hi hj
          refine ⟨-1, Ev.step (fun k => slices_IndexFunc_at43.l0.eq_2 _ _ _ _) (ev_neg (by omega) (Ev.now _)), ?_⟩
          have : allItems l = true := by
            unfold allItems
            rw [List.all_eq_true]
            intro x hx
            exact hj x (by have := List.mem_range.1 hx; omega)
          rw [this]
          rfl
        | succ d ih =>
          intro i hi hj
          have hx := item_impl (rd_T52 l (i : Int))
          cases e : itemB (rd_T52 l (i : Int)) with
          | true =>
            rw [e] at hx
            obtain ⟨r, h1, h2⟩ := ih (i + 1) (by omega) (fun j hj' => by
              by_cases e' : j = i
              · rw [e']; exact e
              · exact hj j (by omega))
            refine ⟨r, Ev.step (fun k => slices_IndexFunc_at43.l0.eq_2 _ _ _ _) (ev_pos (by omega) (ev_pos (by omega) (ev_pos (by omega) (Ev.bind (a := false) (Ev.bind hx (Ev.now _)) (ev_neg (by simp) ?_))))), h2⟩
            rw [w64 (by omega) (by omega)]
            exact h1
          | false =>
            rw [e] at hx
            refine ⟨i, Ev.step (fun k => slices_IndexFunc_at43.l0.eq_2 _ _ _ _) (ev_pos (by omega) (ev_pos (by omega) (ev_pos (by omega) (Ev.bind (a := true) (Ev.bind hx (Ev.now _)) (ev_pos rfl (Ev.now _)))))), ?_⟩
            have : allItems l = false := by
              unfold allItems
              rw [List.all_eq_false]
              exact ⟨i, List.mem_range.2 (by omega), by simp [e]⟩
            rw [this, decide_eq_true (by omega)]
            rfl
      exact key l.length 0 (by omega) (fun j hj => by omega)
    obtain ⟨t, ht, ht2⟩ := any
    have hany : Ev (fun k => slices_ContainsFunc_at43.f k l) (!(allItems l)) := by
      rw [← ht2]
      exact Ev.bind ht (Ev.now _)
    cases ha : allItems l with
    | true =>
      rw [ha] at hany
      obtain ⟨r, r1, r2, _⟩ := skip_both l hl ha 13 0 0 (by omega) (by omega) (by omega)
      refine ⟨r == (l.length : Int), ev_bindc (l1In_eq _ _ _) (ev_pos (decide_eq_true c) ?_), ev_bindc (within_eq _ _ _) (ev_pos (decide_eq_true c) (Ev.bind hany (ev_neg (by simp) (Ev.bind r1 (Ev.now _))))), fun h => ⟨rfl, by omega, by omega, by rw [← eq_of_beq h]; exact r1⟩⟩
      have key : ∀ d i : Nat, i + d = l.length → Ev (fun k => spec_TreeOk.l0 k l (i : Int)) (r == (l.length : Int)) := by
        intro d
        induction d with
        | zero =>
          intro i hi
          exact Ev.step (fun k => spec_TreeOk.l0.eq_2 _ _ _) (ev_neg (by omega) (Ev.bind r2 (Ev.now _)))
        | succ d ih =>
          intro i hi
          refine Ev.step (fun k => spec_TreeOk.l0.eq_2 _ _ _) (ev_pos (by omega) (ev_pos (by omega) ?_))
          refine item_spec (rd_T52 l (i : Int)) (L := fun k => spec_TreeOk.l0 k l (wrap64 ((i : Int) + 1))) (fun _ => ?_) (fun h => ?_)
          · rw [w64 (by omega) (by omega)]
            exact ih (i + 1) (by omega)
          · rw [allItems_at ha i (by omega)] at h
            cases h
      exact key l.length 0 (by omega)
    | false =>
      rw [ha] at hany
      refine ⟨false, ev_bindc (l1In_eq _ _ _) (ev_pos (decide_eq_true c) ?_), ev_bindc (within_eq _ _ _) (ev_pos (decide_eq_true c) (Ev.bind hany (ev_pos rfl (Ev.now _)))), fun h => by cases h⟩
      unfold allItems at ha
      obtain ⟨x, hx, hx2⟩ := List.all_eq_false.1 ha
      have hx := List.mem_range.1 hx
      have key : ∀ d i : Nat, i + d = x → Ev (fun k => spec_TreeOk.l0 k l (i : Int)) false := by
        intro d
        induction d with
        | zero =>
          intro i hi
          obtain rfl : i = x := by omega
          refine Ev.step (fun k => spec_TreeOk.l0.eq_2 _ _ _) (ev_pos (by omega) (ev_pos (by omega) ?_))
          exact item_spec (rd_T52 l (i : Int)) (L := fun k => spec_TreeOk.l0 k l (wrap64 ((i : Int) + 1))) (fun h => absurd h hx2) (fun _ => rfl)
        | succ d ih =>
          intro i hi
          refine Ev.step (fun k => spec_TreeOk.l0.eq_2 _ _ _) (ev_pos (by omega) (ev_pos (by omega) ?_))
          refine item_spec (rd_T52 l (i : Int)) (L := fun k => spec_TreeOk.l0 k l (wrap64 ((i : Int) + 1))) (fun _ => ?_) (fun _ => rfl)
          rw [w64 (by omega) (by omega)]
          exact ih (i + 1) (by omega)
      exact key x 0 (by omega)
  · exact ⟨false, ev_bindc (l1In_eq _ _ _) (ev_neg (by rw [decide_eq_false c]; simp) (Ev.now _)), ev_bindc (within_eq _ _ _) (ev_neg (by rw [decide_eq_false c]; simp) (Ev.now _)), fun h => by cases h⟩
/-! ### the place behind an item, as a plain function -/
def oi : Option Nat → Int
  | none => -1
  | some n => n
theorem stepsN_mono {f f' : Nat → Option Nat} (h : ∀ i e, f i = some e → f' i = some e) : ∀ (c n e : Nat), stepsN f c n = some e → stepsN f' c n = some e
  | 0, _, _, he => he
  | c + 1, n, e, he => by
    unfold stepsN at he ⊢
    cases hf : f n with
    | none => rw [hf] at he; cases he
    | some m =>
      rw [hf] at he
      rw [h n m hf]
      exact stepsN_mono h c m e he
theorem sk_mono (l : List S52) : ∀ (g i e : Nat), sk l g i = some e → sk l (g + 1) i = some e
  | 0, _, _, he => by cases he
  | g + 1, i, e, he => by
    unfold sk at he ⊢
    by_cases c : i < l.length
    · rw [if_pos c] at he ⊢
      exact stepsN_mono (sk_mono l g) _ _ _ he
    · rw [if_neg c] at he
      cases he
theorem sk_mono_le (l : List S52) {g g' i e : Nat} (hg : g ≤ g') (h : sk l g i = some e) : sk l g' i = some e := by
  induction hg with
  | refl => exact h
  | step _ ih => exact sk_mono l _ _ _ ih
/-- Each place within a tree is the start of a tree. -/
theorem stepsN_in {f : Nat → Option Nat} : ∀ (c n e j : Nat), stepsN f c n = some e → n ≤ j → j < e → ∃ s t, f s = some t ∧ s ≤ j ∧ j < t
  | 0, n, e, j, he, h1, h2 => by
    obtain rfl : n = e := Option.some.inj he
    omega
  | c + 1, n, e, j, he, h1, h2 => by
    unfold stepsN at he
    cases hf : f n with
    | none => rw [hf] at he; cases he
    | some m =>
      rw [hf] at he
      by_cases c2 : j < m
      · exact ⟨n, m, hf, h1, c2⟩
      · exact stepsN_in c m e j he (by omega) h2
theorem sk_in (l : List S52) : ∀ (g i e j : Nat), g ≤ 13 → sk l g i = some e → i ≤ j → j < e → ∃ t, sk l 13 j = some t
  | 0, _, _, _, _, he, _, _ => by cases he
  | g + 1, i, e, j, hg, he, h1, h2 => by
    by_cases c : i = j
    · subst c
      exact ⟨e, sk_mono_le l hg he⟩
    · unfold sk at he
      by_cases c : i < l.length
      · rw [if_pos c] at he
        obtain ⟨s, t, a, b, d⟩ := stepsN_in _ _ _ j he (by omega) h2
        exact sk_in l g s t j (by omega) a b d
      · rw [if_neg c] at he
        cases he
theorem skip_sk (l : List S52) (hl : l.length ≤ 1048576) (ha : allItems l = true) : ∀ (g : Nat) (deep : Int) (i : Nat), 0 ≤ deep → deep + g = 13 → i ≤ l.length →
    Ev (fun k => impl_skip.f k l (i : Int) deep) (oi (sk l g i)) := by
  intro g
  induction g with
  | zero =>
    intro deep i h0 hg hi
    have a : Ev (fun k => impl_skip.j0 k l (i : Int) deep true) (-1) := Ev.step (fun k => impl_skip.j0.eq_2 _ _ _ _ _) (ev_pos rfl (Ev.now _))
    refine Ev.step (fun k => impl_skip.f.eq_2 _ _ _ _) ?_
    by_cases c : (i : Int) ≥ (l.length : Int)
    · exact ev_pos c a
    · refine ev_neg c ?_
      rw [decide_eq_true (by omega)]
      exact a
  | succ g ih =>
    intro deep i h0 hg hi
    by_cases c : (i : Int) ≥ (l.length : Int)
    · have : sk l (g + 1) i = none := by
        unfold sk
        rw [if_neg (by omega)]
      rw [this]
      exact Ev.step (fun k => impl_skip.f.eq_2 _ _ _ _) (ev_pos c (Ev.step (fun k => impl_skip.j0.eq_2 _ _ _ _ _) (ev_pos rfl (Ev.now _))))
    have hk := itemB_kids (allItems_at ha i (by omega))
    have key : ∀ (d : Nat) (n : Nat) (c : Int), 0 ≤ c → c + d = (rd_T52 l (i : Int)).f2 → i < n → n ≤ l.length →
        Ev (fun k => impl_skip.l0 k l deep (n : Int) ((rd_T52 l (i : Int)).f2) c) (oi (stepsN (sk l g) d n)) := by
      intro d
      induction d with
      | zero =>
        intro n c c0 hc hn hn2
        exact Ev.step (fun k => impl_skip.l0.eq_2 _ _ _ _ _ _) (ev_neg (by omega) (Ev.now _))
      | succ d ihd =>
        intro n c c0 hc hn hn2
        have ed : Aside0 (wrap64 (deep + 1) = deep + 1) := ⟨w64 (by omega) (by omega)⟩
        have ec : Aside0 (wrap64 (c + 1) = c + 1) := ⟨w64 (by omega) (by omega)⟩
        have r1 := ih (deep + 1) n (by omega) (by omega) hn2
        unfold stepsN
        cases hs : sk l g n with
        | none =>
          rw [hs] at r1
          refine Ev.step (fun k => impl_skip.l0.eq_2 _ _ _ _ _ _) (ev_pos (by omega) ?_)
          rw [ed.out]
          exact Ev.bind r1 (ev_pos (by decide) (Ev.now _))
        | some m =>
          rw [hs] at r1
          have := sk_le l _ _ _ hs
          refine Ev.step (fun k => impl_skip.l0.eq_2 _ _ _ _ _ _) (ev_pos (by omega) ?_)
          rw [ed.out, ec.out]
          exact Ev.bind r1 (ev_neg (by show ¬ ((m : Int) < 0); omega) (ihd m (c + 1) (by omega) (by omega) (by omega) (by omega)))
    have r1 := key ((rd_T52 l (i : Int)).f2).toNat (i + 1) 0 (by omega) (by omega) (by omega) (by omega)
    have ei : Aside0 (wrap64 ((i : Int) + 1) = ((i + 1 : Nat) : Int)) := ⟨by rw [w64 (by omega) (by omega)]; rfl⟩
    have e2 : sk l (g + 1) i = stepsN (sk l g) ((rd_T52 l (i : Int)).f2).toNat (i + 1) := by
      conv => lhs; unfold sk
      exact if_pos (by omega)
    rw [e2]
    refine Ev.step (fun k => impl_skip.f.eq_2 _ _ _ _) (ev_neg c ?_)
    rw [decide_eq_false (by omega)]
    refine Ev.step (fun k => impl_skip.j0.eq_2 _ _ _ _ _) (ev_neg (by simp) (ev_pos (by omega) (ev_pos (by omega) ?_)))
    rw [ei.out]
    exact r1
theorem end_sk (l : List S52) (hl : l.length ≤ 1048576) (ha : allItems l = true) (g : Nat) (deep : Int) (i : Nat) (h0 : 0 ≤ deep) (hg : deep + g = 13) (hi : i ≤ l.length) :
    Ev (fun k => spec_l7End.f k l (i : Int) deep) (oi (sk l g i)) := by
  obtain ⟨r, r1, r2, _⟩ := skip_both l hl ha g deep i h0 hg hi
  rw [ev_uniq (skip_sk l hl ha g deep i h0 hg hi) r1]
  exact r2
/-- the tree that TreeOk lets through -/
structure TreeB (l : List S52) : Prop where
  ha : allItems l = true
  h1 : 1 ≤ l.length
  h300 : l.length ≤ 300
  hs : sk l 13 0 = some l.length
theorem treeOk_tree (l : List S52) (hl : l.length ≤ 1048576) : ∃ r : Bool, Ev (fun k => spec_TreeOk.f k l) r ∧ Ev (fun k => impl_TreeOk.f k l) r ∧ (r = true → TreeB l) := by
  obtain ⟨r, r1, r2, h⟩ := treeOk_both l hl
  refine ⟨r, r1, r2, fun hr => ?_⟩
  obtain ⟨ha, h1, h3, h4⟩ := h hr
  have e := ev_uniq (skip_sk l hl ha 13 0 0 (by omega) (by omega) (by omega)) h4
  refine ⟨ha, h1, h3, ?_⟩
  cases hs : sk l 13 0 with
  | none =>
    rw [hs] at e
    simp only [oi] at e
    omega
  | some m =>
    rw [hs] at e
    simp only [oi] at e
    congr 1
    omega
theorem TreeB.kids {l : List S52} (h : TreeB l) {i : Nat} (hi : i < l.length) : ∃ e, stepsN (sk l 12) ((rd_T52 l (i : Int)).f2).toNat (i + 1) = some e ∧ e ≤ l.length := by
  obtain ⟨t, ht⟩ := sk_in l 13 0 l.length i (Nat.le_refl _) h.hs (by omega) hi
  have hle := sk_le l _ _ _ ht
  unfold sk at ht
  rw [if_pos hi] at ht
  exact ⟨t, ht, hle.2⟩
/-! ### what has been marked is held; an item list's sums -/
theorem tot_sum (ms : List Nat) (B : Nat) (h : ∀ m ∈ ms, m ≤ B) : ∀ i, i ≤ ms.length → tot ms i ≤ i * (B + 2)
  | 0, _ => by simp [tot]
  | i + 1, hi => by
    have := tot_sum ms B h i (by omega)
    have h2 : ms.getD i 0 ≤ B := by
      rw [List.getD_eq_getElem?_getD, List.getElem?_eq_getElem (by omega)]
      exact h _ (List.getElem_mem _)
    simp only [tot, Nat.succ_mul]
    omega
theorem marks_marked (m : Int) (n : Nat) : marks m n = marked m n := by
  apply List.ext_getElem?
  intro j
  by_cases h : j < n
  · rw [marks_at m n j h, marked_get n m j h]
  · rw [List.getElem?_eq_none (by rw [marks_length]; omega), List.getElem?_eq_none (by rw [marked_length]; omega)]
theorem lens_length (l : List S52) : (lens l).length = l.length := by simp [lens]
theorem lens_tot (l : List S52) (hl : l.length ≤ 1048576) (hb : ∀ x ∈ l, x.f1.length ≤ 1048576) : tot (lens l) l.length ≤ 1000000000000000 := by
  have b := tot_sum (lens l) 1048576 (fun m hm => by
    simp only [lens, List.mem_map] at hm
    obtain ⟨x, hx, rfl⟩ := hm
    exact hb x hx) l.length (by rw [lens_length]; omega)
  have d : l.length * (1048576 + 2) ≤ 1048576 * (1048576 + 2) := Nat.mul_le_mul_right _ hl
  omega
theorem lens_tot300 (l : List S52) (hl : l.length ≤ 300) (hb : ∀ x ∈ l, x.f1.length ≤ 1048576) : tot (lens l) l.length ≤ 1000000000000 := by
  have b := tot_sum (lens l) 1048576 (fun m hm => by
    simp only [lens, List.mem_map] at hm
    obtain ⟨x, hx, rfl⟩ := hm
    exact hb x hx) l.length (by rw [lens_length]; omega)
  have d : l.length * (1048576 + 2) ≤ 300 * (1048576 + 2) := Nat.mul_le_mul_right _ hl
  omega
/-! ### the reference's bytes of an item -/
theorem l7Length_eq (n : Nat) : spec_l7Length.f (n : Int) = some (lenB n) := by
  unfold spec_l7Length.f lenB
  by_cases c : n < 128
  · rw [if_pos (by omega), if_pos c]
  · rw [if_neg (by omega), if_neg c]
    by_cases c2 : n < 256
    · rw [if_pos (by omega), if_pos c2]
    · rw [if_neg (by omega), if_neg c2]
theorem l1Bytes_eq (xs : List Int) (h : xs.length ≤ 1048576) : spec_l1Bytes.f xs = some xs := by
  unfold spec_l1Bytes.f
  show (if 0 + xs.length < 140737488355328 then some ([] ++ xs) else none) = _
  rw [if_pos (by omega)]
  rfl
theorem l7Write_ev {l : List S52} (hl : l.length ≤ 300) (hkb : ∀ j : Nat, j < l.length → 0 ≤ (rd_T52 l (j : Int)).f2 ∧ (rd_T52 l (j : Int)).f2 ≤ 300) (hbb : ∀ j : Nat, j < l.length → (rd_T52 l (j : Int)).f1.length ≤ 1048576) (hwt : wt l 0 l.length ≤ 60000) :
    ∀ (g i e : Nat), sk l g i = some e → Ev (fun k => spec_l7Write.f k l (i : Int)) (der l g i, (e : Int)) := by
  intro g
  induction g with
  | zero =>
    intro i e h
    cases h
  | succ g ih =>
    intro i e h
    have hle := sk_le l _ _ _ h
    have hi : i < l.length := by omega
    unfold sk at h
    rw [if_pos hi] at h
    have hki := hkb i hi
    have hbi := hbb i hi
    obtain ⟨cnt, hcnt⟩ : ∃ cnt : Nat, (rd_T52 l (i : Int)).f2 = (cnt : Int) := ⟨_, (Int.toNat_of_nonneg hki.1).symm⟩
    have hder : der l (g + 1) i = derW (rd_T52 l (i : Int)).f0 ((rd_T52 l (i : Int)).f1 ++ derK (der l g) (sk l g) cnt (i + 1)) := by
      show derW _ _ = _
      rw [hcnt]
      rfl
    rw [hder]
    rw [hcnt, Int.toNat_natCast] at h
    have hw1 := wt_split l (i := 0) (m := i) (e := l.length) (by omega) (by omega)
    have hw2 := wt_split l (i := i) (m := e) (e := l.length) (by omega) (by omega)
    have hw3 := wt_split l (i := i) (m := i + 1) (e := e) (by omega) (by omega)
    have hw4 := wt_one l i
    have key : ∀ (d n c : Nat) (cur : List Int), c + d = cnt → n ≤ e → cur.length + wt l n e ≤ 60000 → stepsN (sk l g) d n = some e →
        Ev (fun k => spec_l7Write.l0 k l (i : Int) cur (n : Int) (c : Int)) (derW (rd_T52 l (i : Int)).f0 (cur ++ derK (der l g) (sk l g) d n), (e : Int)) := by
      intro d
      induction d with
      | zero =>
        intro n c cur hc hn hcw hs
        obtain rfl : n = e := Option.some.inj hs
        refine Ev.step (fun k => spec_l7Write.l0.eq_2 _ _ _ _ _ _) (ev_pos (by omega) (ev_pos (by omega) (ev_neg (by omega) ?_)))
        have hlb := lenB_length cur.length
        refine ev_bindc rfl (ev_bindc (l7Length_eq cur.length) (ev_pos (by simp only [List.length_singleton]; omega) (ev_bindc rfl (ev_pos (by simp only [List.length_append, List.length_singleton]; omega) ?_))))
        have e1 : derW (rd_T52 l (i : Int)).f0 (cur ++ derK (der l g) (sk l g) 0 n) = [(rd_T52 l (i : Int)).f0 % 256] ++ lenB cur.length ++ cur := by
          simp [derK, derW]
        rw [e1]
        exact Ev.now _
      | succ d ihd =>
        intro n c cur hc hn hcw hs
        unfold stepsN at hs
        cases hx : sk l g n with
        | none => rw [hx] at hs; cases hs
        | some m =>
          rw [hx] at hs
          have h1 := sk_le l _ _ _ hx
          have h2 := stepsN_le (sk_le l g) d m e (by omega) hs
          have h3 := (der_le l _ _ _ hx).1
          have h4 := wt_split l (i := n) (m := m) (e := e) (by omega) (by omega)
          refine Ev.step (fun k => spec_l7Write.l0.eq_2 _ _ _ _ _ _) (ev_pos (by omega) (ev_pos (by omega) (ev_pos (by omega) (Ev.bind (ih n m hx) (ev_pos (by show cur.length + (der l g n).length < _; omega) ?_)))))
          rw [w64 (by omega) (by omega)]
          have := ihd m (c + 1) (cur ++ der l g n) (by omega) (by omega) (by rw [List.length_append]; omega) hs
          have e1 : derK (der l g) (sk l g) (d + 1) n = der l g n ++ derK (der l g) (sk l g) d m := by
            show der l g n ++ derK (der l g) (sk l g) d ((sk l g n).getD 0) = _
            rw [hx]
            rfl
          rw [e1, ← List.append_assoc]
          exact this
    refine Ev.step (fun k => spec_l7Write.f.eq_2 _ _ _) (ev_pos (by omega) (ev_pos (by omega) (ev_bindc (l1Bytes_eq _ hbi) ?_)))
    rw [w64 (x := (i : Int) + 1) (by omega) (by omega)]
    exact key cnt (i + 1) 0 _ (by omega) (by omega) (by omega) h
theorem sm_mono (l : List S52) : ∀ (d i : Nat), sm l i ≤ sm l (i + d)
  | 0, i => Nat.le_refl _
  | d + 1, i => by
    have := sm_mono l d i
    have e : sm l (i + (d + 1)) = sm l (i + d) + (rd_T52 l ((i + d : Nat) : Int)).f1.length := rfl
    omega
theorem specW_ev (l : List S52) (hl : l.length ≤ 1048576) (hbb : ∀ j : Nat, j < l.length → (rd_T52 l (j : Int)).f1.length ≤ 1048576) (t : Bool) (ht : Ev (fun k => spec_TreeOk.f k l) t) (hT : t = true → TreeB l) : Ev (fun k => spec_WriteDer.f k l) (writeDer l t) := by
  cases t with
  | false =>
    have e : writeDer l false = ([], false) := by
      unfold writeDer
      rw [if_neg (by simp)]
    rw [e]
    exact Ev.bind ht (ev_neg (by simp) (Ev.now _))
  | true =>
    have T := hT rfl
    have h3 := T.h300
    have hkb : ∀ j : Nat, j < l.length → 0 ≤ (rd_T52 l (j : Int)).f2 ∧ (rd_T52 l (j : Int)).f2 ≤ 300 := fun j hj => by
      have := itemB_kids (allItems_at T.ha j hj)
      exact ⟨this.1, this.2.1⟩
    refine Ev.bind ht (ev_pos rfl ?_)
    have key : ∀ (d j : Nat), j + d = l.length → Ev (fun k => spec_WriteDer.l0 k l ((sm l j : Nat) : Int) (j : Int)) (writeDer l true) := by
      intro d
      induction d with
      | zero =>
        intro j hj
        obtain rfl : j = l.length := by omega
        refine Ev.step (fun k => spec_WriteDer.l0.eq_2 _ _ _ _) (ev_neg (by omega) ?_)
        by_cases c : ((sm l l.length : Nat) : Int) > 4000
        · have e : writeDer l true = ([], false) := by
            unfold writeDer
            rw [if_neg (by omega)]
          rw [e]
          exact ev_pos c (Ev.now _)
        · have hwt : wt l 0 l.length ≤ 60000 := by
            rw [sm_wt]
            omega
          refine ev_neg c (Ev.bind (l7Write_ev h3 hkb hbb hwt 13 0 l.length T.hs) ?_)
          by_cases c2 : ((der l 13 0).length : Int) > 4000
          · have e : writeDer l true = ([], false) := by
              unfold writeDer
              rw [if_neg (by omega)]
            rw [e]
            exact ev_pos c2 (Ev.now _)
          · have e : writeDer l true = (der l 13 0, true) := by
              unfold writeDer
              rw [if_pos ⟨rfl, by omega, by omega⟩]
            rw [e]
            exact ev_neg c2 (Ev.now _)
      | succ d ih =>
        intro j hj
        refine Ev.step (fun k => spec_WriteDer.l0.eq_2 _ _ _ _) (ev_pos (by omega) (ev_pos (by omega) ?_))
        have hm := sm_mono l d (j + 1)
        rw [show j + 1 + d = l.length by omega] at hm
        have e1 : sm l (j + 1) = sm l j + (rd_T52 l (j : Int)).f1.length := rfl
        have hle := sm_le hbb j (by omega)
        have hbj := hbb j (by omega)
        by_cases c : ((rd_T52 l (j : Int)).f1.length : Int) > 4000
        · have e : writeDer l true = ([], false) := by
            unfold writeDer
            rw [if_neg (by omega)]
          rw [e]
          exact ev_pos c (Ev.now _)
        · refine ev_neg c ?_
          have h5 : j * 1048576 ≤ 300 * 1048576 := Nat.mul_le_mul_right _ (by omega)
          rw [w64 (x := ((sm l j : Nat) : Int) + ((rd_T52 l (j : Int)).f1.length : Int)) (by omega) (by omega), w64 (x := (j : Int) + 1) (by omega) (by omega)]
          have := ih (j + 1) (by omega)
          rw [e1] at this
          rw [Int.natCast_add] at this
          exact this
    exact key l.length 0 (by omega)
theorem rd_bound {l : List S52} (hb : ∀ x ∈ l, x.f1.length ≤ 1048576) (j : Nat) (hj : j < l.length) : (rd_T52 l (j : Int)).f1.length ≤ 1048576 := by
  rw [rd52 hj]
  exact hb _ (List.getElem_mem hj)
theorem heldMarks_ev (n : Nat) (hn : n ≤ 1048576) : Ev (fun k => laws_heldByteS.f k (marks 1 n) 1) ((1 : Int) + (n : Int)) := by
  rw [marks_marked]
  exact held_ev (L := laws_heldByteS.l0) (fun _ _ _ _ => rfl) n 1 (by omega) (by omega) (by omega)
theorem FnExactWriteDer (l : List S50) (hm : l.length ≤ maxLen) (hwf : ∀ z ∈ l, WfItem z) : ∃ k, LawOk k l true := by
  obtain ⟨v, ⟨K1, hv⟩, hq⟩ := sz_ev l hm (fun x hx => (hwf x hx).len)
  by_cases c : v < 0
  · exact ⟨K1, rfl, v, hv K1 (Nat.le_refl _), .inl c⟩
  obtain ⟨hl, hb⟩ := hq c
  obtain ⟨K2, ht⟩ := toItemS_ev l hl hb
  have hl' : (l.map conv).length ≤ 1048576 := by simpa using hl
  have hb' : ∀ x ∈ l.map conv, x.f1.length ≤ 1048576 := fun x hx => by
    obtain ⟨y, hy, rfl⟩ := List.mem_map.1 hx
    exact hb y hy
  have hbb := fun j hj => rd_bound hb' j hj
  obtain ⟨t, t1, t2, hT⟩ := treeOk_tree (l.map conv) hl'
  obtain ⟨k2, hk2⟩ := ev_k t2
  obtain ⟨r, b, hwd⟩ : ∃ r b, writeDer (l.map conv) t = (r, b) := ⟨_, _, rfl⟩
  have hs' := specW_ev (l.map conv) hl' hbb t t1 hT
  rw [hwd] at hs'
  obtain ⟨K3, hs⟩ := hs'
  have hr : r.length ≤ 4000 := by
    have e : r = (writeDer (l.map conv) t).1 := by rw [hwd]
    rw [e]
    unfold writeDer
    split
    · next h => exact h.2.2
    · simp
  obtain ⟨K4, h4⟩ := eqByteS_ev r (by omega)
  obtain ⟨K5, h5⟩ := eqItemS_ev (l.map conv) (by omega) (fun x hx => by have := hb' x hx; omega)
  obtain ⟨K6, h6⟩ := heldMarks_ev r.length (by omega)
  refine ⟨K1 + K2 + K3 + K4 + K5 + K6, rfl, v, hv _ (by omega), .inr ⟨c, k2, l.map conv, r, b, t, ht _ (by omega), hs _ (by omega), hwd, hk2, ?_, hbb, h4 _ (by omega), h5 _ (by omega), h6 _ (by omega), hl', lens_tot _ hl' hb', by omega⟩⟩
  intro htt
  have T := hT htt
  refine ⟨T.h300, fun j hj => ?_, T.hs⟩
  have := itemB_kids (allItems_at T.ha j hj)
  exact ⟨this.1, this.2.1⟩

end Go.Proofs.Ytmeobalddjembaa.Pure
