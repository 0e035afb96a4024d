/- a drawn tree comes back from its bytes, its parts are trees, and its children together with what is below them are all of it. -/
import Derived.Test.YtmeobalddjembaaGFnTreesx3
import Derived.Test.YtmeobalddjembaaBase
import Derived.Test.YtmeobalddjembaaGFnTreesHand
namespace Go.Proofs.Ytmeobalddjembaa.Pure
open Go.RowKit Go.Proofs.Ytmeobalddjembaa.GFnTrees Go.Proofs.YtmeobalddjembaaW.PrintWords Go.Proofs.YtmeobalddjembaaW.PrintLast Go.Proofs.Ytmeobalddjembaa.Base
set_option linter.unusedVariables false
set_option linter.unusedSimpArgs false

open Go.Proofs.Ytmeobalddjembaa.GFnTrees.Hand
/-! ### the program's TreeOk, of a list that is a tree -/
theorem within_eq (x a b : Int) : impl_within.f x a b = some (decide (a ≤ x ∧ x ≤ b)) := by
  unfold impl_within.f
  by_cases h : x ≥ a
  · rw [if_pos h]; simp [show a ≤ x from h]
  · rw [if_neg h]; simp [show ¬ a ≤ x from h]
def madeB (t : Int) : Bool := decide (t / 32 % 2 = 1)
def itemB (x : S52) : Bool := decide (0 ≤ x.f0 ∧ x.f0 ≤ 255) && (decide (x.f0 % 32 ≠ 31) && (if madeB x.f0 = true then decide (x.f1.length = 0 ∧ 0 ≤ x.f2 ∧ x.f2 ≤ 300) else decide (x.f2 = 0)))
theorem bits255 : ∀ n : Fin 256, ((Go.bits .and .i64 ((n.val : Nat) : Int) 31 == 31) = decide (((n.val : Nat) : Int) % 32 = 31)) ∧ ((Go.bits .and .i64 ((n.val : Nat) : Int) 32 != 0) = madeB ((n.val : Nat) : Int)) := by decide +kernel
theorem isMade_eq (t : Int) (h0 : 0 ≤ t) (h1 : t ≤ 255) : impl_isMade.f t = some (madeB t) := by
  obtain ⟨n, rfl⟩ := Int.eq_ofNat_of_zero_le h0
  unfold impl_isMade.f
  exact congrArg some (bits255 ⟨n, by omega⟩).2
theorem bits31 (t : Int) (h0 : 0 ≤ t) (h1 : t ≤ 255) : (Go.bits .and .i64 t 31 == 31) = decide (t % 32 = 31) := by
  obtain ⟨n, rfl⟩ := Int.eq_ofNat_of_zero_le h0
  exact (bits255 ⟨n, by omega⟩).1
theorem item_impl (x : S52) : Ev (fun k => impl_itemOk.f k x.f0 x.f1 x.f2) (itemB x) := by
  unfold itemB
  refine ev_bindc (within_eq _ _ _) ?_
  by_cases c : 0 ≤ x.f0 ∧ x.f0 ≤ 255
  · rw [decide_eq_true c, Bool.true_and]
    refine ev_pos rfl ?_
    rw [bits31 _ c.1 c.2]
    by_cases c2 : x.f0 % 32 = 31
    · rw [decide_eq_true c2, decide_eq_false (by simpa using c2), Bool.false_and]
      exact Ev.step (fun k => impl_itemOk.j0.eq_2 _ _ _ _ _) (ev_pos rfl (Ev.now _))
    · rw [decide_eq_false c2, decide_eq_true c2, Bool.true_and]
      refine Ev.step (fun k => impl_itemOk.j0.eq_2 _ _ _ _ _) (ev_neg (by simp) (ev_bindc (isMade_eq _ c.1 c.2) ?_))
      cases hm : madeB x.f0 with
      | true =>
        have hI : (if (true : Bool) = true then decide (x.f1.length = 0 ∧ 0 ≤ x.f2 ∧ x.f2 ≤ 300) else decide (x.f2 = 0)) = decide (x.f1.length = 0 ∧ 0 ≤ x.f2 ∧ x.f2 ≤ 300) := if_pos rfl
        rw [hI]
        refine ev_pos rfl ?_
        by_cases c3 : (x.f1.length : Int) = 0
        · refine ev_pos c3 (ev_bindc (within_eq _ _ _) ?_)
          rw [show decide (x.f1.length = 0 ∧ 0 ≤ x.f2 ∧ x.f2 ≤ 300) = decide (0 ≤ x.f2 ∧ x.f2 ≤ 300) by rw [decide_eq_decide]; omega]
          exact Ev.now _
        · rw [decide_eq_false (by omega)]
          exact ev_neg c3 (Ev.now _)
      | false =>
        have hI : (if (false : Bool) = true then decide (x.f1.length = 0 ∧ 0 ≤ x.f2 ∧ x.f2 ≤ 300) else decide (x.f2 = 0)) = decide (x.f2 = 0) := if_neg (by simp)
        rw [hI]
        exact ev_neg (by simp) (Ev.now _)
  · rw [decide_eq_false c, Bool.false_and]
    exact ev_neg (by simp) (Ev.step (fun k => impl_itemOk.j0.eq_2 _ _ _ _ _) (ev_pos rfl (Ev.now _)))
def allItems (l : List S52) : Bool := (List.range l.length).all (fun i => itemB (rd_T52 l (i : Int)))
theorem itemB_kids {x : S52} (h : itemB x = true) : 0 ≤ x.f2 ∧ x.f2 ≤ 300 ∧ 0 ≤ x.f0 ∧ x.f0 ≤ 255 := by
  unfold itemB at h
  have h0 := of_decide_eq_true (Bool.and_eq_true_iff.1 h).1
  have h := (Bool.and_eq_true_iff.1 (Bool.and_eq_true_iff.1 h).2).2
  by_cases c : madeB x.f0 = true
  · rw [if_pos c] at h
    have := of_decide_eq_true h
    omega
  · rw [if_neg c] at h
    have := of_decide_eq_true h
    omega
theorem allItems_at {l : List S52} (h : allItems l = true) (i : Nat) (hi : i < l.length) : itemB (rd_T52 l (i : Int)) = true := List.all_eq_true.1 h i (List.mem_range.2 hi)
/-! ### the place behind an item, as a plain function -/
def oi : Option Nat → Int
  | none => -1
  | some n => n
theorem stepsN_mono {f f' : Nat → Option Nat} (h : ∀ i e, f i = some e → f' i = some e) : ∀ (c n e : Nat), stepsN f c n = some e → stepsN f' c n = some e
  | 0, _, _, he => he
  | c + 1, n, e, he => by
    unfold stepsN at he ⊢
    cases hf : f n with
    | none => rw [hf] at he; cases he
    | some m =>
      rw [hf] at he
      rw [h n m hf]
      exact stepsN_mono h c m e he
theorem sk_mono (l : List S52) : ∀ (g i e : Nat), sk l g i = some e → sk l (g + 1) i = some e
  | 0, _, _, he => by cases he
  | g + 1, i, e, he => by
    unfold sk at he ⊢
    by_cases c : i < l.length
    · rw [if_pos c] at he ⊢
      exact stepsN_mono (sk_mono l g) _ _ _ he
    · rw [if_neg c] at he
      cases he
theorem sk_mono_le (l : List S52) {g g' i e : Nat} (hg : g ≤ g') (h : sk l g i = some e) : sk l g' i = some e := by
  induction hg with
  | refl => exact h
  | step _ ih => exact sk_mono l _ _ _ ih
/-- Each place within a tree is the start of a tree. -/
theorem stepsN_in {f : Nat → Option Nat} : ∀ (c n e j : Nat), stepsN f c n = some e → n ≤ j → j < e → ∃ s t, f s = some t ∧ s ≤ j ∧ j < t
  | 0, n, e, j, he, h1, h2 => by
    obtain rfl : n = e := Option.some.inj he
    omega
  | c + 1, n, e, j, he, h1, h2 => by
    unfold stepsN at he
    cases hf : f n with
    | none => rw [hf] at he; cases he
    | some m =>
      rw [hf] at he
      by_cases c2 : j < m
      · exact ⟨n, m, hf, h1, c2⟩
      · exact stepsN_in c m e j he (by omega) h2
theorem sk_in (l : List S52) : ∀ (g i e j : Nat), g ≤ 13 → sk l g i = some e → i ≤ j → j < e → ∃ t, sk l 13 j = some t
  | 0, _, _, _, _, he, _, _ => by cases he
  | g + 1, i, e, j, hg, he, h1, h2 => by
    by_cases c : i = j
    · subst c
      exact ⟨e, sk_mono_le l hg he⟩
    · unfold sk at he
      by_cases c : i < l.length
      · rw [if_pos c] at he
        obtain ⟨s, t, a, b, d⟩ := stepsN_in _ _ _ j he (by omega) h2
        exact sk_in l g s t j (by omega) a b d
      · rw [if_neg c] at he
        cases he
theorem skip_sk (l : List S52) (hl : l.length ≤ 1048576) (ha : allItems l = true) : ∀ (g : Nat) (deep : Int) (i : Nat), 0 ≤ deep → deep + g = 13 → i ≤ l.length →
    Ev (fun k => impl_skip.f k l (i : Int) deep) (oi (sk l g i)) := by
  intro g
  induction g with
  | zero =>
    intro deep i h0 hg hi
    have a : Ev (fun k => impl_skip.j0 k l (i : Int) deep true) (-1) := Ev.step (fun k => impl_skip.j0.eq_2 _ _ _ _ _) (ev_pos rfl (Ev.now _))
    refine Ev.step (fun k => impl_skip.f.eq_2 _ _ _ _) ?_
    by_cases c : (i : Int) ≥ (l.length : Int)
    · exact ev_pos c a
    · refine ev_neg c ?_
      rw [decide_eq_true (by omega)]
      exact a
  | succ g ih =>
    intro deep i h0 hg hi
    by_cases c : (i : Int) ≥ (l.length : Int)
    · have : sk l (g + 1) i = none := by
        unfold sk
        rw [if_neg (by omega)]
      rw [this]
      exact Ev.step (fun k => impl_skip.f.eq_2 _ _ _ _) (ev_pos c (Ev.step (fun k => impl_skip.j0.eq_2 _ _ _ _ _) (ev_pos rfl (Ev.now _))))
    have hk := itemB_kids (allItems_at ha i (by omega))
    have key : ∀ (d : Nat) (n : Nat) (c : Int), 0 ≤ c → c + d = (rd_T52 l (i : Int)).f2 → i < n → n ≤ l.length →
        Ev (fun k => impl_skip.l0 k l deep (n : Int) ((rd_T52 l (i : Int)).f2) c) (oi (stepsN (sk l g) d n)) := by
      intro d
      induction d with
      | zero =>
        intro n c c0 hc hn hn2
        exact Ev.step (fun k => impl_skip.l0.eq_2 _ _ _ _ _ _) (ev_neg (by omega) (Ev.now _))
      | succ d ihd =>
        intro n c c0 hc hn hn2
        have ed : Aside0 (wrap64 (deep + 1) = deep + 1) := ⟨w64 (by omega) (by omega)⟩
        have ec : Aside0 (wrap64 (c + 1) = c + 1) := ⟨w64 (by omega) (by omega)⟩
        have r1 := ih (deep + 1) n (by omega) (by omega) hn2
        unfold stepsN
        cases hs : sk l g n with
        | none =>
          rw [hs] at r1
          refine Ev.step (fun k => impl_skip.l0.eq_2 _ _ _ _ _ _) (ev_pos (by omega) ?_)
          rw [ed.out]
          exact Ev.bind r1 (ev_pos (by decide) (Ev.now _))
        | some m =>
          rw [hs] at r1
          have := sk_le l _ _ _ hs
          refine Ev.step (fun k => impl_skip.l0.eq_2 _ _ _ _ _ _) (ev_pos (by omega) ?_)
          rw [ed.out, ec.out]
          exact Ev.bind r1 (ev_neg (by show ¬ ((m : Int) < 0); omega) (ihd m (c + 1) (by omega) (by omega) (by omega) (by omega)))
    have r1 := key ((rd_T52 l (i : Int)).f2).toNat (i + 1) 0 (by omega) (by omega) (by omega) (by omega)
    have ei : Aside0 (wrap64 ((i : Int) + 1) = ((i + 1 : Nat) : Int)) := ⟨by rw [w64 (by omega) (by omega)]; rfl⟩
    have e2 : sk l (g + 1) i = stepsN (sk l g) ((rd_T52 l (i : Int)).f2).toNat (i + 1) := by
      conv => lhs; unfold sk
      exact if_pos (by omega)
    rw [e2]
    refine Ev.step (fun k => impl_skip.f.eq_2 _ _ _ _) (ev_neg c ?_)
    rw [decide_eq_false (by omega)]
    refine Ev.step (fun k => impl_skip.j0.eq_2 _ _ _ _ _) (ev_neg (by simp) (ev_pos (by omega) (ev_pos (by omega) ?_)))
    rw [ei.out]
    exact r1
/-- the tree that TreeOk lets through -/
structure TreeB (l : List S52) : Prop where
  ha : allItems l = true
  h1 : 1 ≤ l.length
  h300 : l.length ≤ 300
  hs : sk l 13 0 = some l.length
theorem TreeB.kids {l : List S52} (h : TreeB l) {i : Nat} (hi : i < l.length) : ∃ e, stepsN (sk l 12) ((rd_T52 l (i : Int)).f2).toNat (i + 1) = some e ∧ e ≤ l.length := by
  obtain ⟨t, ht⟩ := sk_in l 13 0 l.length i (Nat.le_refl _) h.hs (by omega) hi
  have hle := sk_le l _ _ _ ht
  unfold sk at ht
  rw [if_pos hi] at ht
  exact ⟨t, ht, hle.2⟩

/-! ### the children of an item -/
def kidsL (f : Nat → Option Nat) : Nat → Nat → List Int
  | 0, _ => []
  | c + 1, n => (n : Int) :: kidsL f c ((f n).getD 0)
theorem kidsL_length (f : Nat → Option Nat) : ∀ c n, (kidsL f c n).length = c
  | 0, _ => rfl
  | c + 1, n => by simp [kidsL, kidsL_length f c]
theorem kids_impl {l : List S52} (h : TreeB l) (cnt : Int) : ∀ (d : Nat) (n : Nat) (c : Int) (acc : List Int) (e : Nat), 0 ≤ c → c + d = cnt → cnt ≤ 300 → n ≤ l.length → acc.length + d ≤ 1000 → stepsN (sk l 12) d n = some e →
    Ev (fun k => impl_Children.l0 k l acc (n : Int) cnt c) (acc ++ kidsL (sk l 13) d n, true)
  | 0, n, c, acc, e, h0, h1, h2, h3, h4, h5 => by
    refine Ev.step (fun k => impl_Children.l0.eq_2 _ _ _ _ _ _) (ev_neg (by omega) ?_)
    simp only [kidsL, List.append_nil]
    exact Ev.now _
  | d + 1, n, c, acc, e, h0, h1, h2, h3, h4, h5 => by
    unfold stepsN at h5
    cases hf : sk l 12 n with
    | none => rw [hf] at h5; cases h5
    | some m =>
      rw [hf] at h5
      have hm := sk_le l _ _ _ hf
      have hb := h.h300
      have hf2 := sk_mono l _ _ _ hf
      have r := skip_sk l (by omega) h.ha 13 0 n (by omega) (by omega) h3
      rw [hf2] at r
      refine Ev.step (fun k => impl_Children.l0.eq_2 _ _ _ _ _ _) (ev_pos (by omega) (ev_pos (by omega) (Ev.bind r ?_)))
      rw [w64 (by omega) (by omega)]
      have ih := kids_impl h cnt d m (c + 1) (acc ++ [(n : Int)]) e (by omega) (by omega) h2 (by omega) (by simp; omega) h5
      rw [List.append_assoc] at ih
      have e1 : kidsL (sk l 13) (d + 1) n = [(n : Int)] ++ kidsL (sk l 13) d m := by
        simp [kidsL, hf2]
      rw [e1]
      exact ih
/-! ### the bytes of a tree, read again -/
theorem rd52' {l : List S52} {i : Nat} (h : i < l.length) : rd_T52 l (i : Int) = l[i] := by simp [rd_T52, h]
theorem rd52_app (pre : List S52) (x : S52) (post : List S52) : rd_T52 (pre ++ x :: post) (pre.length : Int) = x := by
  rw [rd52' (by simp)]
  simp
theorem at8_eq (b : List Int) (i : Nat) : at8 b i = b.getD i 0 := by
  unfold at8
  rw [Base.rd_nat]
theorem at8_app (X Z : List Int) (j : Nat) : at8 (X ++ Z) (X.length + j) = Z.getD j 0 := by
  rw [at8_eq, List.getD_eq_getElem?_getD, List.getElem?_append_right (by omega), show X.length + j - X.length = j by omega, ← List.getD_eq_getElem?_getD]
theorem head_der (X Y body : List Int) (tag : Int) (E g : Nat) (ht0 : 0 ≤ tag) (ht1 : tag ≤ 255) (h31 : tag % 32 ≠ 31) (hn : body.length < 65536) (hE : X.length + (derW tag body).length ≤ E) :
    head (X ++ (derW tag body ++ Y)) X.length E (g + 1) = .ok (tag, X.length + 1 + (lenB body.length).length, body.length) := by
  have key := at8_app X (derW tag body ++ Y)
  have k0 : at8 (X ++ (derW tag body ++ Y)) X.length = tag := by
    have := key 0
    rw [Nat.add_zero] at this
    rw [this]
    show tag % 256 = tag
    omega
  have k1 := key 1
  have k2 := key 2
  have k3 := key 3
  generalize (X ++ (derW tag body ++ Y)) = B at k0 k1 k2 k3 ⊢
  unfold head
  rw [k0]
  unfold derW at hE k1 k2 k3
  unfold lenB at hE k1 k2 k3 ⊢
  by_cases c1 : body.length < 128
  · simp only [if_pos c1, List.length_cons, List.length_nil, List.length_append] at hE k1 ⊢
    have k1 : at8 B (X.length + 1) = (body.length : Int) := k1.trans (by show (body.length : Int) % 256 = _; omega)
    rw [k1, if_neg (by omega), if_neg h31, if_neg (by omega), if_neg (by omega), if_pos (by omega)]
    unfold headFin
    rw [if_neg (by omega)]
    exact congrArg Except.ok (by rw [Int.toNat_natCast])
  · by_cases c2 : body.length < 256
    · simp only [if_neg c1, if_pos c2, List.length_cons, List.length_nil, List.length_append] at hE k1 k2 ⊢
      have k1 : at8 B (X.length + 1) = 129 := k1
      have k2 : at8 B (X.length + 2) = (body.length : Int) := k2.trans (by show (body.length : Int) % 256 = _; omega)
      rw [k1, k2, if_neg (by omega), if_neg h31, if_neg (by omega), if_neg (by omega), if_neg (by omega), if_neg (by omega), if_pos rfl, if_neg (by omega), if_neg (by omega)]
      unfold headFin
      rw [if_neg (by omega)]
      exact congrArg Except.ok (by rw [Int.toNat_natCast])
    · simp only [if_neg c1, if_neg c2, List.length_cons, List.length_nil, List.length_append] at hE k1 k2 k3 ⊢
      have k1 : at8 B (X.length + 1) = 130 := k1
      have k2 : at8 B (X.length + 2) = (body.length : Int) / 256 := k2.trans (by show (body.length : Int) / 256 % 256 = _; omega)
      have k3 : at8 B (X.length + 3) = (body.length : Int) % 256 := k3
      have k4 : (body.length : Int) / 256 * 256 + (body.length : Int) % 256 = (body.length : Int) := by omega
      rw [k1, k2, k3, k4, if_neg (by omega), if_neg h31, if_neg (by omega), if_neg (by omega), if_neg (by omega), if_neg (by omega), if_neg (by omega), if_neg (by omega), if_neg (by omega)]
      unfold headFin
      rw [if_neg (by omega)]
      exact congrArg Except.ok (by rw [Int.toNat_natCast])
theorem derK_ge {l : List S52} {g : Nat} : ∀ (c n e : Nat), stepsN (sk l g) c n = some e → 2 * c ≤ (derK (der l g) (sk l g) c n).length
  | 0, n, e, h => by omega
  | c + 1, n, e, h => by
    unfold stepsN at h
    cases hx : sk l g n with
    | none => rw [hx] at h; cases h
    | some m =>
      rw [hx] at h
      have h1 := derK_ge c m e h
      have h2 := (der_le l _ _ _ hx).2
      simp only [derK, hx, List.length_append, Option.getD_some]
      omega
theorem part_nil (l : List S52) (n : Nat) : partL l n n = [] := by simp [partL]
def GoodL (l : List S52) : Prop := ∀ j : Nat, j < l.length → itemB (rd_T52 l (j : Int)) = true
theorem itemB_tag {x : S52} (h : itemB x = true) : x.f0 % 32 ≠ 31 ∧ (madeB x.f0 = true → x.f1 = [] ∧ 0 ≤ x.f2 ∧ x.f2 ≤ 300) ∧ (madeB x.f0 = false → x.f2 = 0) := by
  unfold itemB at h
  have h2 := (Bool.and_eq_true_iff.1 h).2
  have h3 := of_decide_eq_true (Bool.and_eq_true_iff.1 h2).1
  have h4 := (Bool.and_eq_true_iff.1 h2).2
  refine ⟨h3, fun hm => ?_, fun hm => ?_⟩
  · rw [if_pos hm] at h4
    have := of_decide_eq_true h4
    exact ⟨List.eq_nil_of_length_eq_zero this.1, this.2⟩
  · rw [if_neg (by simp [hm])] at h4
    exact of_decide_eq_true h4
theorem rdKids_der {l : List S52} {g : Nat} {b : List Int} {stop : Nat}
    (hit : ∀ i e, sk l g i = some e → ∀ X Y : List Int, b = X ++ (der l g i ++ Y) → X.length + (der l g i).length ≤ stop → rdItem b g stop X.length = .ok (partL l i e, X.length + (der l g i).length)) :
    ∀ (c n e : Nat), stepsN (sk l g) c n = some e → n ≤ l.length → ∀ (X Y : List Int) (N : Nat), b = X ++ (derK (der l g) (sk l g) c n ++ Y) → stop = X.length + (derK (der l g) (sk l g) c n).length → c ≤ N →
    rdKids (rdItem b g stop) stop N X.length = .ok (partL l n e, c)
  | 0, n, e, h, hn, X, Y, N, hb, hs, hN => by
    obtain rfl : n = e := Option.some.inj h
    rw [part_nil]
    cases N with
    | zero => rfl
    | succ N =>
      unfold rdKids
      rw [if_neg (by simp [derK] at hs; omega)]
  | c + 1, n, e, h, hn, X, Y, N, hb, hs, hN => by
    unfold stepsN at h
    cases hx : sk l g n with
    | none => rw [hx] at h; cases h
    | some m =>
      rw [hx] at h
      have hm := sk_le l _ _ _ hx
      have h2 := (der_le l _ _ _ hx).2
      have h3 := stepsN_le (sk_le l g) c m e (by omega) h
      have ek : derK (der l g) (sk l g) (c + 1) n = der l g n ++ derK (der l g) (sk l g) c m := by simp only [derK, hx, Option.getD_some]
      rw [ek, List.append_assoc] at hb
      rw [ek, List.length_append] at hs
      cases N with
      | zero => omega
      | succ N =>
        have e1 := hit n m hx X _ hb (by omega)
        have ih := rdKids_der hit c m e h (by omega) (X ++ der l g n) Y N (by rw [hb]; simp) (by rw [List.length_append]; omega) (by omega)
        rw [List.length_append] at ih
        unfold rdKids
        rw [if_pos (by omega), e1]
        simp only
        rw [ih]
        simp only
        rw [part_split l (by omega : n ≤ m) h3.1]
theorem rdItem_der {l : List S52} (hg : GoodL l) {b : List Int} (hb4 : b.length ≤ 60000) : ∀ (g i e : Nat), sk l g i = some e → ∀ (X Y : List Int) (E : Nat), b = X ++ (der l g i ++ Y) → X.length + (der l g i).length ≤ E → rdItem b g E X.length = .ok (partL l i e, X.length + (der l g i).length)
  | 0, i, e, h => by cases h
  | g + 1, i, e, h => by
    intro X Y E hb hE
    have hd : (der l (g + 1) i).length ≤ 60000 := by
      rw [hb, List.length_append, List.length_append] at hb4
      omega
    have hle := sk_le l _ _ _ h
    have hi : i < l.length := by omega
    have hB := hg i hi
    have hK := itemB_kids hB
    obtain ⟨t31, tm, tn⟩ := itemB_tag hB
    have h' := h
    unfold sk at h'
    rw [if_pos hi] at h'
    obtain ⟨x, hx⟩ : ∃ x, rd_T52 l (i : Int) = x := ⟨_, rfl⟩
    obtain ⟨body, hbody⟩ : ∃ body, x.f1 ++ derK (der l g) (sk l g) (x.f2).toNat (i + 1) = body := ⟨_, rfl⟩
    have hder : der l (g + 1) i = derW x.f0 body := by
      rw [← hbody, ← hx]
      rfl
    rw [hx] at h' hB hK t31 tm tn
    rw [hder] at hb hd hE ⊢
    have hlen : (derW x.f0 body).length = 1 + (lenB body.length).length + body.length := by
      unfold derW
      rw [List.length_cons, List.length_append]
      omega
    have hh := head_der X Y body x.f0 E g hK.2.2.1 hK.2.2.2 t31 (by omega) hE
    rw [← hb] at hh
    have hbb : b = (X ++ (x.f0 % 256 :: lenB body.length)) ++ (body ++ Y) := by
      rw [hb]
      unfold derW
      simp
    have hXl : (X ++ (x.f0 % 256 :: lenB body.length)).length = X.length + 1 + (lenB body.length).length := by
      rw [List.length_append, List.length_cons]
      omega
    have hmT : madeT x.f0 = madeB x.f0 := rfl
    unfold rdItem
    rw [hh]
    simp only
    rw [hmT]
    by_cases cm : madeB x.f0 = true
    · obtain ⟨f1, f20, f21⟩ := tm cm
      rw [if_pos cm]
      rw [f1, List.nil_append] at hbody
      have hge := derK_ge _ _ _ h'
      rw [hbody] at hge
      have ih := rdKids_der (l := l) (g := g) (b := b) (stop := X.length + 1 + (lenB body.length).length + body.length) (fun i' e' h2 X' Y' hb' hs' => rdItem_der hg hb4 g i' e' h2 X' Y' _ hb' hs') (x.f2).toNat (i + 1) e h' (by omega) (X ++ (x.f0 % 256 :: lenB body.length)) Y body.length (by rw [hbody]; exact hbb) (by rw [hbody, hXl]) (by omega)
      rw [hXl] at ih
      rw [ih]
      simp only
      have he := stepsN_le (sk_le l g) _ _ _ (by omega) h'
      rw [part_split l (show i ≤ i + 1 by omega) he.1, part_one, hx, hlen]
      have ex : (⟨x.f0, [], (((x.f2).toNat : Nat) : Int)⟩ : S52) = x := by
        rw [Int.toNat_of_nonneg f20, ← f1]
      rw [ex, ← Nat.add_assoc, ← Nat.add_assoc]
      rfl
    · have cm' : madeB x.f0 = false := by simpa using cm
      rw [if_neg cm]
      have f2 := tn cm'
      rw [f2] at h' hbody
      obtain rfl : i + 1 = e := Option.some.inj h'
      have hbody : x.f1 = body := by rw [← hbody]; simp [derK]
      have ed : (b.drop (X.length + 1 + (lenB body.length).length)).take body.length = x.f1 := by
        rw [hbb, ← hXl, List.drop_left, List.take_left, hbody]
      have ex : (⟨x.f0, x.f1, 0⟩ : S52) = x := by rw [← f2]
      rw [part_one, hx, hlen, ed, ex, ← Nat.add_assoc, ← Nat.add_assoc]
theorem readDer_der {l : List S52} (h : TreeB l) (hd : (der l 13 0).length ≤ 4000) (hp : partL l 0 l.length = l) : readDer (der l 13 0) = (l, 0, 0) := by
  have hg : GoodL l := fun j hj => allItems_at h.ha j hj
  have r := rdItem_der hg (b := der l 13 0) (by omega) 13 0 l.length h.hs [] [] (der l 13 0).length (by simp) (by simp)
  rw [hp] at r
  simp only [List.length_nil, Nat.zero_add] at r
  unfold readDer
  rw [if_neg (by omega), r]
  have := h.h300
  simp only
  rw [if_neg (by omega), if_neg (by omega)]
theorem lenB_range (n : Nat) : ∀ x ∈ lenB n, 0 ≤ x ∧ x ≤ 255 := by
  intro x hx
  unfold lenB at hx
  split at hx
  · simp only [List.mem_cons, List.not_mem_nil, or_false] at hx
    omega
  · split at hx
    · simp only [List.mem_cons, List.not_mem_nil, or_false] at hx
      omega
    · simp only [List.mem_cons, List.not_mem_nil, or_false] at hx
      omega
theorem derK_range {f : Nat → List Int} {s : Nat → Option Nat} (hf : ∀ i e, s i = some e → ∀ x ∈ f i, 0 ≤ x ∧ x ≤ 255) : ∀ (c n e : Nat), stepsN s c n = some e → ∀ x ∈ derK f s c n, 0 ≤ x ∧ x ≤ 255
  | 0, n, e, _, x, hx => by simp [derK] at hx
  | c + 1, n, e, h, x, hx => by
    unfold stepsN at h
    cases hs : s n with
    | none => rw [hs] at h; cases h
    | some m =>
      rw [hs] at h
      simp only [derK, hs, Option.getD_some, List.mem_append] at hx
      rcases hx with hx | hx
      · exact hf n m hs x hx
      · exact derK_range hf c m e h x hx
theorem der_range {l : List S52} (hb : ∀ j : Nat, j < l.length → ∀ y ∈ (rd_T52 l (j : Int)).f1, 0 ≤ y ∧ y ≤ 255) : ∀ (g i e : Nat), sk l g i = some e → ∀ x ∈ der l g i, 0 ≤ x ∧ x ≤ 255
  | 0, i, e, h, x, hx => by cases h
  | g + 1, i, e, h, x, hx => by
    have hle := sk_le l _ _ _ h
    unfold sk at h
    rw [if_pos (by omega)] at h
    unfold der derW at hx
    simp only [List.mem_cons, List.mem_append] at hx
    rcases hx with hx | hx | hx | hx
    · omega
    · exact lenB_range _ x hx
    · exact hb i (by omega) x hx
    · exact derK_range (fun i' e' h' => der_range hb g i' e' h') _ _ _ h x hx
/-! ### parts of a tree are trees -/
theorem rd_part {l : List S52} {a E j : Nat} (hE : E ≤ l.length) (hj : a + j < E) : rd_T52 (partL l a E) (j : Int) = rd_T52 l ((a + j : Nat) : Int) := by
  have hl : (partL l a E).length = E - a := part_length l a E
  rw [rd52' (by omega)]
  simp [partL]
theorem part_all (l : List S52) : partL l 0 l.length = l := by
  apply List.ext_getElem
  · rw [part_length]
    rfl
  · intro i h1 h2
    have := rd_part (l := l) (a := 0) (E := l.length) (j := i) (Nat.le_refl _) (by omega)
    rw [rd52' h1, Nat.zero_add, rd52' h2] at this
    exact this
theorem steps_part {f f' : Nat → Option Nat} {a E N : Nat} (hN : ∀ i e, f i = some e → i < e ∧ e ≤ N) (hf : ∀ i e, f i = some e → a ≤ i → e ≤ E → f' (i - a) = some (e - a)) : ∀ (c n e : Nat), stepsN f c n = some e → n ≤ N → a ≤ n → e ≤ E → stepsN f' c (n - a) = some (e - a)
  | 0, n, e, h, _, _, _ => by
    obtain rfl : n = e := Option.some.inj h
    rfl
  | c + 1, n, e, h, hnN, ha, hE => by
    unfold stepsN at h ⊢
    cases hx : f n with
    | none => rw [hx] at h; cases h
    | some m =>
      rw [hx] at h
      have h1 := hN _ _ hx
      have h2 := stepsN_le hN c m e (by omega) h
      rw [hf n m hx ha (by omega)]
      exact steps_part hN hf c m e h (by omega) (by omega) hE
theorem sk_part (l : List S52) {a E : Nat} (hE : E ≤ l.length) : ∀ (g i e : Nat), sk l g i = some e → a ≤ i → e ≤ E → sk (partL l a E) g (i - a) = some (e - a)
  | 0, i, e, h, _, _ => by cases h
  | g + 1, i, e, h, ha, he => by
    have hle := sk_le l _ _ _ h
    unfold sk at h ⊢
    rw [if_pos (by omega)] at h
    rw [part_length, if_pos (by omega), rd_part hE (by omega), show a + (i - a) = i by omega, show i - a + 1 = i + 1 - a by omega]
    exact steps_part (sk_le l g) (fun i' e' h' => sk_part l hE g i' e' h') _ _ _ h (by omega) (by omega) he
theorem part_tree {l : List S52} (h : TreeB l) {i e : Nat} (hs : sk l 13 i = some e) : TreeB (partL l i e) := by
  have hle := sk_le l _ _ _ hs
  have h3 := h.h300
  have hl := part_length l i e
  refine ⟨?_, by omega, by omega, ?_⟩
  · unfold allItems
    rw [List.all_eq_true]
    intro j hj
    have := List.mem_range.1 hj
    show itemB (rd_T52 (partL l i e) (j : Int)) = true
    rw [rd_part hle.2 (by omega)]
    exact allItems_at h.ha _ (by omega)
  · have := sk_part l hle.2 13 i e hs (Nat.le_refl _) (Nat.le_refl _)
    rw [Nat.sub_self] at this
    rw [this, hl]
/-! ### TreeOk of a tree; its children -/
theorem treeOk_yes {l : List S52} (h : TreeB l) : Ev (fun k => impl_TreeOk.f k l) true := by
  have h3 := h.h300
  have h1 := h.h1
  have key : ∀ d i : Nat, i + d = l.length → Ev (fun k => slices_IndexFunc_at43.l0 k l (l.length : Int) (i : Int)) (-1) := by
    intro d
    induction d with
    | zero =>
      intro i hi
      exact Ev.step (fun k => slices_IndexFunc_at43.l0.eq_2 _ _ _ _) (ev_neg (by omega) (Ev.now _))
    | succ d ih =>
      intro i hi
      have hx := item_impl (rd_T52 l (i : Int))
      rw [allItems_at h.ha i (by omega)] at hx
      refine Ev.step (fun k => slices_IndexFunc_at43.l0.eq_2 _ _ _ _) (ev_pos (by omega) (ev_pos (by omega) (ev_pos (by omega) (Ev.bind (a := false) (Ev.bind hx (Ev.now _)) (ev_neg (by simp) ?_)))))
      rw [Base.w64 (by omega) (by omega)]
      exact ih (i + 1) (by omega)
  have hany : Ev (fun k => slices_ContainsFunc_at43.f k l) false := Ev.bind (key l.length 0 (by omega)) (Ev.now _)
  have r := skip_sk l (by omega) h.ha 13 0 0 (by omega) (by omega) (by omega)
  rw [h.hs] at r
  refine ev_bindc (within_eq _ _ _) (ev_pos (decide_eq_true (by omega)) (Ev.bind hany (ev_neg (by simp) (Ev.bind r ?_))))
  rw [show (oi (some l.length) == (l.length : Int)) = true from beq_self_eq_true _]
  exact Ev.now _
theorem children_made {l : List S52} (h : TreeB l) (hm : madeB (rd_T52 l ((0 : Nat) : Int)).f0 = true) : Ev (fun k => impl_Children.f k l 0) (kidsL (sk l 13) ((rd_T52 l ((0 : Nat) : Int)).f2).toNat 1, true) := by
  have hb := h.h300
  have h1 := h.h1
  have hk := itemB_kids (allItems_at h.ha 0 (by omega))
  have ew : Aside0 (wrap64 ((l.length : Int) - 1) = (l.length : Int) - 1) := ⟨Base.w64 (by omega) (by omega)⟩
  obtain ⟨e, he, _⟩ := h.kids (i := 0) (by omega)
  refine Ev.bind (treeOk_yes h) (ev_pos rfl ?_)
  rw [ew.out]
  refine ev_bindc (within_eq _ _ _) (ev_pos (decide_eq_true (by omega)) (ev_pos (by omega) (ev_pos (by omega) (ev_bindc (isMade_eq _ hk.2.2.1 hk.2.2.2) ?_))))
  rw [show madeB (rd_T52 l 0).f0 = true from hm]
  refine Ev.step (fun k => impl_Children.j0.eq_2 _ _ _ _) (ev_neg (by simp) (ev_pos (by omega) (ev_pos (by omega) ?_)))
  have e1 : wrap64 ((0 : Int) + 1) = ((1 : Nat) : Int) := Base.w64 (by decide) (by decide)
  have := kids_impl h ((rd_T52 l ((0 : Nat) : Int)).f2) ((rd_T52 l ((0 : Nat) : Int)).f2).toNat 1 0 [] e (by omega) (by omega) (by omega) (by omega) (by rw [List.length_nil]; omega) he
  rw [List.nil_append] at this
  rw [e1]
  exact this
theorem children_leaf {l : List S52} (h : TreeB l) (hm : madeB (rd_T52 l ((0 : Nat) : Int)).f0 = false) : Ev (fun k => impl_Children.f k l 0) ([], false) := by
  have hb := h.h300
  have h1 := h.h1
  have hk := itemB_kids (allItems_at h.ha 0 (by omega))
  have ew : Aside0 (wrap64 ((l.length : Int) - 1) = (l.length : Int) - 1) := ⟨Base.w64 (by omega) (by omega)⟩
  refine Ev.bind (treeOk_yes h) (ev_pos rfl ?_)
  rw [ew.out]
  refine ev_bindc (within_eq _ _ _) (ev_pos (decide_eq_true (by omega)) (ev_pos (by omega) (ev_pos (by omega) (ev_bindc (isMade_eq _ hk.2.2.1 hk.2.2.2) ?_))))
  rw [show madeB (rd_T52 l 0).f0 = false from hm]
  exact Ev.step (fun k => impl_Children.j0.eq_2 _ _ _ _) (ev_pos rfl (Ev.now _))
theorem kids_places {f f' : Nat → Option Nat} (hf : ∀ i e, f i = some e → f' i = some e) : ∀ (c n e : Nat), stepsN f c n = some e → ∃ pl : Nat → Nat, pl 0 = n ∧ pl c = e ∧ ∀ i, i < c → f (pl i) = some (pl (i + 1)) ∧ (kidsL f' c n).getD i 0 = (pl i : Int)
  | 0, n, e, h => by
    obtain rfl : n = e := Option.some.inj h
    exact ⟨fun _ => n, rfl, rfl, fun i hi => by omega⟩
  | c + 1, n, e, h => by
    unfold stepsN at h
    cases hx : f n with
    | none => rw [hx] at h; cases h
    | some m =>
      rw [hx] at h
      obtain ⟨pl, p0, pc, hp⟩ := kids_places hf c m e h
      refine ⟨fun i => match i with | 0 => n | i + 1 => pl i, rfl, pc, fun i hi => ?_⟩
      cases i with
      | zero => exact ⟨by show f n = some (pl 0); rw [p0]; exact hx, rfl⟩
      | succ i =>
        refine ⟨(hp i (by omega)).1, ?_⟩
        have e1 : kidsL f' (c + 1) n = (n : Int) :: kidsL f' c m := by simp [kidsL, hf _ _ hx]
        rw [e1]
        exact (hp i (by omega)).2
/-! ### drawn trees -/
theorem dt_steps {d : Nat} (ih : ∀ l, DT d l → ∀ pre post : List S52, sk (pre ++ (l ++ post)) (d + 1) pre.length = some (pre.length + l.length)) :
    ∀ (ks : List (List S52)), (∀ k ∈ ks, DT d k) → ∀ (L pre post : List S52), L = pre ++ (ks.flatten ++ post) → stepsN (sk L (d + 1)) ks.length pre.length = some (pre.length + ks.flatten.length)
  | [], _, L, pre, post, _ => rfl
  | k :: ks, h, L, pre, post, hL => by
    have h1 := ih k (h k (by simp)) pre (ks.flatten ++ post)
    have e1 : L = pre ++ (k ++ (ks.flatten ++ post)) := by rw [hL]; simp
    rw [← e1] at h1
    have h2 := dt_steps ih ks (fun x hx => h x (by simp [hx])) L (pre ++ k) post (by rw [e1]; simp)
    rw [List.length_append] at h2
    rw [List.length_cons]
    unfold stepsN
    rw [h1]
    show stepsN (sk L (d + 1)) ks.length (pre.length + k.length) = _
    rw [h2, List.flatten_cons, List.length_append, Nat.add_assoc]
theorem leaf_sk {d : Nat} {l : List S52} (h : Leaf l) (pre post : List S52) : sk (pre ++ (l ++ post)) (d + 1) pre.length = some (pre.length + l.length) := by
  obtain ⟨t, b, _, _, _, rfl⟩ := h
  unfold sk
  rw [if_pos (by simp), show pre ++ ([(⟨t, b, 0⟩ : S52)] ++ post) = pre ++ (⟨t, b, 0⟩ : S52) :: post by simp, rd52_app]
  rfl
theorem dt_sk : ∀ (d : Nat) (l : List S52), DT d l → ∀ pre post : List S52, sk (pre ++ (l ++ post)) (d + 1) pre.length = some (pre.length + l.length)
  | 0, l, h, pre, post => leaf_sk h pre post
  | d + 1, l, h, pre, post => by
    rcases h with h | ⟨t, ks, _, _, hks, rfl⟩
    · exact leaf_sk h pre post
    · have h2 := dt_steps (fun l hl => dt_sk d l hl) ks hks (pre ++ (((⟨t, [], (ks.length : Int)⟩ : S52) :: ks.flatten) ++ post)) (pre ++ [⟨t, [], (ks.length : Int)⟩]) post (by simp)
      unfold sk
      rw [if_pos (by simp), show pre ++ (((⟨t, [], (ks.length : Int)⟩ : S52) :: ks.flatten) ++ post) = pre ++ (⟨t, [], (ks.length : Int)⟩ : S52) :: (ks.flatten ++ post) by simp, rd52_app]
      rw [show pre ++ (((⟨t, [], (ks.length : Int)⟩ : S52) :: ks.flatten) ++ post) = pre ++ (⟨t, [], (ks.length : Int)⟩ : S52) :: (ks.flatten ++ post) by simp, List.length_append, List.length_singleton] at h2
      show stepsN _ ((ks.length : Int)).toNat _ = _
      rw [Int.toNat_natCast, h2, List.length_cons]
      congr 1
      omega
theorem leaf_items {l : List S52} (h : Leaf l) : ∀ x ∈ l, itemB x = true ∧ x.f1.length ≤ 256 ∧ ∀ y ∈ x.f1, 0 ≤ y ∧ y ≤ 255 := by
  obtain ⟨t, b, ht, hb, hr, rfl⟩ := h
  intro x hx
  rw [List.mem_singleton] at hx
  subst hx
  refine ⟨?_, hb, hr⟩
  simp only [leafTags, List.mem_cons, List.not_mem_nil, or_false] at ht
  rcases ht with rfl | rfl | rfl | rfl | rfl | rfl | rfl | rfl | rfl <;> rfl
theorem dt_items : ∀ (d : Nat) (l : List S52), DT d l → ∀ x ∈ l, itemB x = true ∧ x.f1.length ≤ 256 ∧ ∀ y ∈ x.f1, 0 ≤ y ∧ y ≤ 255
  | 0, l, h, x, hx => leaf_items h x hx
  | d + 1, l, h, x, hx => by
    rcases h with h | ⟨t, ks, ht, h3, hks, rfl⟩
    · exact leaf_items h x hx
    · rcases List.mem_cons.1 hx with rfl | hx
      · refine ⟨?_, by simp, by simp⟩
        have hm : madeB t = true ∧ 0 ≤ t ∧ t ≤ 255 ∧ t % 32 ≠ 31 := by
          simp only [madeTags, List.mem_cons, List.not_mem_nil, or_false] at ht
          rcases ht with rfl | rfl | rfl | rfl <;> exact ⟨rfl, by decide, by decide, by decide⟩
        unfold itemB
        show (decide (0 ≤ t ∧ t ≤ 255) && (decide (t % 32 ≠ 31) && (if madeB t = true then _ else _))) = true
        rw [if_pos hm.1, decide_eq_true ⟨hm.2.1, hm.2.2.1⟩, decide_eq_true hm.2.2.2, Bool.true_and, Bool.true_and]
        exact decide_eq_true ⟨rfl, by show (0 : Int) ≤ (ks.length : Int); omega, by show (ks.length : Int) ≤ 300; omega⟩
      · obtain ⟨k, hk, hxk⟩ := List.mem_flatten.1 hx
        exact dt_items d k (hks k hk) x hxk
def bound : Nat → Nat
  | 0 => 1
  | d + 1 => 1 + 3 * bound d
theorem bound_pos : ∀ d, 1 ≤ bound d
  | 0 => Nat.le_refl _
  | d + 1 => by unfold bound; omega
theorem flat_len {d : Nat} (ih : ∀ l, DT d l → l.length ≤ bound d) : ∀ ks : List (List S52), (∀ k ∈ ks, DT d k) → ks.flatten.length ≤ ks.length * bound d
  | [], _ => by simp
  | k :: ks, h => by
    have h1 := ih k (h k (by simp))
    have h2 := flat_len ih ks (fun x hx => h x (by simp [hx]))
    rw [List.flatten_cons, List.length_append, List.length_cons, Nat.succ_mul]
    omega
theorem dt_len : ∀ (d : Nat) (l : List S52), DT d l → l.length ≤ bound d
  | 0, l, h => by
    obtain ⟨t, b, _, _, _, rfl⟩ := h
    exact Nat.le_refl _
  | d + 1, l, h => by
    rcases h with ⟨t, b, _, _, _, rfl⟩ | ⟨t, ks, ht, h3, hks, rfl⟩
    · exact bound_pos _
    · have h1 := flat_len (fun l hl => dt_len d l hl) ks hks
      have h2 : ks.length * bound d ≤ 3 * bound d := Nat.mul_le_mul_right _ h3
      rw [List.length_cons]
      unfold bound
      omega
theorem sm_256 {l : List S52} (hb : ∀ j : Nat, j < l.length → (rd_T52 l (j : Int)).f1.length ≤ 256) : ∀ i, i ≤ l.length → sm l i ≤ i * 256
  | 0, _ => by simp [sm]
  | i + 1, hi => by
    have := sm_256 hb i (by omega)
    have := hb i (by omega)
    simp only [sm]
    omega
theorem tf_of (l : List S52) (h : DT 3 l) : ∃ K, ∀ k, K ≤ k → TF k l := by
  have hit := dt_items 3 l h
  have hlen : l.length ≤ 40 := dt_len 3 l h
  have hsk := dt_sk 3 l h [] []
  simp only [List.nil_append, List.append_nil, List.length_nil, Nat.zero_add] at hsk
  have hle := sk_le l _ _ _ hsk
  have hi : ∀ j : Nat, j < l.length → itemB (rd_T52 l (j : Int)) = true ∧ (rd_T52 l (j : Int)).f1.length ≤ 256 ∧ ∀ y ∈ (rd_T52 l (j : Int)).f1, 0 ≤ y ∧ y ≤ 255 := fun j hj => by
    rw [rd52' hj]
    exact hit _ (List.getElem_mem hj)
  have T : TreeB l := ⟨by
    unfold allItems
    rw [List.all_eq_true]
    intro j hj
    exact (hi j (List.mem_range.1 hj)).1, by omega, by omega, sk_mono_le l (by omega) hsk⟩
  have hp := part_all l
  obtain ⟨K1, ht⟩ := treeOk_yes T
  have hb256 : ∀ j : Nat, j < l.length → (rd_T52 l (j : Int)).f1.length ≤ 256 := fun j hj => (hi j hj).2.1
  have hw : (writeDer l true = ([], false) ∧ 3 < l.length) ∨ (∃ d, writeDer l true = (d, true) ∧ (∀ x ∈ d, 0 ≤ x ∧ x ≤ 255) ∧ readDer d = (l, 0, 0)) := by
    by_cases c : sm l l.length ≤ 4000 ∧ (der l 13 0).length ≤ 4000
    · refine .inr ⟨der l 13 0, ?_, der_range (fun j hj => (hi j hj).2.2) 13 0 _ T.hs, readDer_der T c.2 hp⟩
      unfold writeDer
      rw [if_pos ⟨rfl, c⟩]
    · refine .inl ⟨?_, ?_⟩
      · unfold writeDer
        rw [if_neg (fun h => c h.2)]
      · apply Nat.lt_of_not_le
        intro h3
        apply c
        have e1 := sm_256 hb256 l.length (Nat.le_refl _)
        have e2 := sm_wt l l.length
        have e3 := (der_le l _ _ _ T.hs).1
        omega
  have hkb : ∀ j : Nat, j < l.length → 0 ≤ (rd_T52 l (j : Int)).f2 ∧ (rd_T52 l (j : Int)).f2 ≤ 300 := fun j hj => ⟨(itemB_kids (hi j hj).1).1, (itemB_kids (hi j hj).1).2.1⟩
  have hs13 := T.hs
  have hk0 := hkb 0 (by omega)
  have hst : stepsN (sk l 12) ((rd_T52 l ((0 : Nat) : Int)).f2).toNat 1 = some l.length := by
    have := T.hs
    unfold sk at this
    rw [if_pos (by omega)] at this
    exact this
  cases hm : madeB (rd_T52 l ((0 : Nat) : Int)).f0 with
  | true =>
    obtain ⟨K2, hc⟩ := children_made T hm
    obtain ⟨pl, p0, pc, hpl⟩ := kids_places (fun i e h => sk_mono l _ _ _ h) _ _ _ hst
    have hK : ∀ c, c ≤ ((rd_T52 l ((0 : Nat) : Int)).f2).toNat → ∃ K, ∀ k, K ≤ k → ∀ i, i < c → impl_TreeOk.f k (partL l (pl i) (pl (i + 1))) = some true := by
      intro c
      induction c with
      | zero => exact fun _ => ⟨0, fun k _ i hi => by omega⟩
      | succ c ih =>
        intro hc
        obtain ⟨K, hK⟩ := ih (by omega)
        obtain ⟨K', hK'⟩ := treeOk_yes (part_tree T (sk_mono l _ _ _ (hpl c (by omega)).1))
        refine ⟨K + K', fun k hk i hi => ?_⟩
        by_cases e : i = c
        · subst e
          exact hK' k (by omega)
        · exact hK k (by omega) i (by omega)
    obtain ⟨K3, hK3⟩ := hK _ (Nat.le_refl _)
    refine ⟨K1 + K2 + K3, fun k hk => ⟨by omega, by omega, hkb, fun j hj => by have := hb256 j hj; omega, ht k (by omega), hs13, hw, ⟨_, true, pl, hc k (by omega), ?_, p0, ?_, .inl ⟨rfl, ?_⟩⟩, hp⟩⟩
    · rw [kidsL_length]
      omega
    · intro i hi
      rw [kidsL_length] at hi
      have h1 := (hpl i hi).1
      have h2 := sk_le l _ _ _ h1
      refine ⟨?_, by omega, h2.2, by omega, sk_mono l _ _ _ h1, hK3 k (by omega) i hi⟩
      rw [Base.rd_nat]
      exact (hpl i hi).2
    · rw [kidsL_length, pc]
  | false =>
    obtain ⟨K2, hc⟩ := children_leaf T hm
    have hz := (itemB_tag (hi 0 (by omega)).1).2.2 hm
    rw [hz] at hst
    have hl1 : 1 = l.length := Option.some.inj hst
    exact ⟨K1 + K2, fun k hk => ⟨by omega, by omega, hkb, fun j hj => by have := hb256 j hj; omega, ht k (by omega), hs13, hw, ⟨[], false, fun _ => 1, hc k (by omega), by simp, rfl, fun i hi => by simp at hi, .inr ⟨rfl, hl1.symm, rfl⟩⟩, hp⟩⟩
theorem FnTrees (l : List Int) (hm : l.length ≤ maxLen) (h64 : l.length * 1 ≤ 140737488351232) (hwf : ∀ x ∈ l, (Lit.int .u8 x).wf = true) : ∃ k, LawOk k l true := by
  refine ⟨0, rfl, ?_⟩
  by_cases c : l.length > 1048576
  · exact .inl c
  · exact .inr ⟨by omega, fun t ht => by
      obtain ⟨K, h⟩ := tf_of t ht
      exact ⟨K, h K (Nat.le_refl _)⟩⟩

end Go.Proofs.Ytmeobalddjembaa.Pure
