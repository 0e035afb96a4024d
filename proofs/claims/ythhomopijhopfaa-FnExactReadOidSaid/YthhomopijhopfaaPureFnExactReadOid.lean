/- The program's ReadOid returns what the reference's returns, for all arguments that the law lets in. -/
import Derived.Test.YthhomopijhopfaaGFnExactReadOidx5
import Derived.Test.YthhomopijhopfaaBase
namespace Go.Proofs.Ythhomopijhopfaa.Pure
open Go.RowKit Go.Proofs.Ythhomopijhopfaa.GFnExactReadOid Go.Proofs.YthhomopijhopfaaW.PrintWords Go.Proofs.YthhomopijhopfaaW.PrintLast Go.Proofs.Ythhomopijhopfaa.Base
set_option linter.unusedVariables false
set_option linter.unusedSimpArgs false

theorem l1In_eq (x a b : Int) : spec_l1In.f x a b = some (decide (a ≤ x ∧ x ≤ b)) := by
  unfold spec_l1In.f
  by_cases h : x ≥ a
  · rw [if_pos h]; simp [show a ≤ x from h]
  · rw [if_neg h]; simp [show ¬ a ≤ x from h]
theorem within_eq (x a b : Int) : impl_within.f x a b = some (decide (a ≤ x ∧ x ≤ b)) := l1In_eq x a b
theorem eqByteS_ev (l : List Int) (hl : l.length ≤ 1048576) : Ev (fun k => laws_eqByteS.f k l l) true :=
  ev_pos rfl (by simpa using eq_ev (L := laws_eqByteS.l0) (fun _ _ _ _ => rfl) l l (by omega) rfl)
/-! ### OidBytes -/
/-- the groups of seven bits of a number, put ahead of what is there -/
def sv : Nat → Int → List Int → List Int
  | 0, _, acc => acc
  | f + 1, x, acc => if x > 0 then sv f (x / 128) ((128 + x % 128) :: acc) else acc
def sev (n : Int) : List Int := sv 8 (n / 128) [n % 128]
theorem sv_length : ∀ (f : Nat) (x : Int) (acc : List Int), (sv f x acc).length ≤ f + acc.length := by
  intro f
  induction f with
  | zero => intro x acc; simp [sv]
  | succ f ih =>
    intro x acc
    unfold sv
    split
    · have := ih (x / 128) ((128 + x % 128) :: acc)
      simp at this; omega
    · omega
theorem sev_length (n : Int) : (sev n).length ≤ 9 := by
  have := sv_length 8 (n / 128) [n % 128]
  unfold sev; simpa using this
theorem pow128_le {i j : Nat} (h : i ≤ j) : (128 : Int) ^ i ≤ 128 ^ j := by
  have := Nat.pow_le_pow_right (n := 128) (by decide) h
  rw [← Int.ofNat_le] at this
  rwa [Int.natCast_pow, Int.natCast_pow] at this
theorem seven_spec_loop : ∀ (f : Nat) (x : Int) (acc : List Int), 0 ≤ x → x < 128 ^ f → f ≤ 8 → acc.length + f ≤ 1000 → Ev (fun k => spec_l7Seven.l0 k x acc) (sv f x acc) := by
  intro f
  induction f with
  | zero =>
    intro x acc h0 h1 _ _
    exact Ev.step (fun k => spec_l7Seven.l0.eq_2 _ _ _) (ev_neg (by omega) (Ev.now _))
  | succ f ih =>
    intro x acc h0 h1 hf ha
    unfold sv
    by_cases c : x > 0
    · rw [if_pos c]
      have hx : x / 128 < 128 ^ f := by rw [Int.pow_succ] at h1; omega
      have hb : x < 2 ^ 62 := by
        have := pow128_le hf
        omega
      refine Ev.step (fun k => spec_l7Seven.l0.eq_2 _ _ _) (ev_pos c (Ev.bind (Ev.now _) (ev_pos (by simp; omega) ?_)))
      rw [Int.tmod_eq_emod_of_nonneg h0, Int.tdiv_eq_ediv_of_nonneg h0, w64 (x := x / 128) (by omega) (by omega), w64 (x := 128 + x % 128) (by omega) (by omega), show (128 + x % 128) % 256 = 128 + x % 128 by omega]
      exact ih _ _ (by omega) hx (by omega) (by simp; omega)
    · rw [if_neg c]; exact Ev.step (fun k => spec_l7Seven.l0.eq_2 _ _ _) (ev_neg c (Ev.now _))
theorem seven_spec (n : Int) (h0 : 0 ≤ n) (h1 : n < 128 ^ 8) : Ev (fun k => spec_l7Seven.f k n) (sev n) := by
  unfold spec_l7Seven.f sev
  rw [Int.tmod_eq_emod_of_nonneg h0, Int.tdiv_eq_ediv_of_nonneg h0, w64 (x := n / 128) (by omega) (by omega), show n % 128 % 256 = n % 128 by omega]
  exact seven_spec_loop 8 _ _ (by omega) (by omega) (by decide) (by simp)
theorem seven_impl_loop : ∀ (f : Nat) (x : Int) (acc : List Int), 0 ≤ x → x < 128 ^ f → f ≤ 8 → acc.length + f ≤ 1000 → Ev (fun k => impl_sevens.l0 k x acc) (sv f x acc.reverse) := by
  have stop : ∀ acc : List Int, acc.length ≤ 1000 → Ev (fun k => (slices_Reverse_byte_byte.f k acc).bind fun t => some t) acc.reverse := fun acc h =>
    Ev.bind (rev_ev (L := slices_Reverse_byte_byte.l0) (fun _ _ _ _ => rfl) acc (by omega)) (Ev.now _)
  intro f
  induction f with
  | zero =>
    intro x acc h0 h1 _ ha
    exact Ev.step (fun k => impl_sevens.l0.eq_2 _ _ _) (ev_neg (by omega) (stop acc (by omega)))
  | succ f ih =>
    intro x acc h0 h1 hf ha
    unfold sv
    by_cases c : x > 0
    · rw [if_pos c]
      have hx : x / 128 < 128 ^ f := by rw [Int.pow_succ] at h1; omega
      have hb : x < 2 ^ 62 := by
        have := pow128_le hf
        omega
      refine Ev.step (fun k => impl_sevens.l0.eq_2 _ _ _) (ev_pos c (ev_pos (by omega) ?_))
      have e1 : Go.bits .and .i64 x 127 = x % 128 := and_mask 7 (by decide) h0 hb
      have e2 : Go.bits .or .i64 (x % 128) 128 = 128 + x % 128 := by
        rw [bits_or_comm]; exact or_add 7 (by decide) (by decide) (by decide) (by decide) (by omega) (by omega)
      rw [e1, e2, show (128 + x % 128) % 256 = 128 + x % 128 by omega]
      have := ih (x / 128) (acc ++ [128 + x % 128]) (by omega) hx (by omega) (by simp; omega)
      rw [List.reverse_append] at this
      exact this
    · rw [if_neg c]; exact Ev.step (fun k => impl_sevens.l0.eq_2 _ _ _) (ev_neg c (stop acc (by omega)))
theorem seven_impl (n : Int) (h0 : 0 ≤ n) (h1 : n < 128 ^ 8) : Ev (fun k => impl_sevens.f k n) (sev n) := by
  unfold impl_sevens.f sev
  have e1 : Go.bits .and .i64 n 127 = n % 128 := and_mask 7 (by decide) h0 (by omega)
  rw [e1, show n % 128 % 256 = n % 128 by omega]
  exact seven_impl_loop 8 _ [n % 128] (by omega) (by omega) (by decide) (by simp)
/-- when numbers have bytes -/
def inB (a b x : Int) : Bool := decide (a ≤ x ∧ x ≤ b)
def oidB (l : List Int) : Bool := inB 2 12 (l.length : Int) && (inB 0 2 (rd l 0) && (inB 0 (if rd l 0 = 2 then 1000000 else 39) (rd l 1) && (l.drop 2).all (inB 0 1000000000)))
def oidL (l : List Int) : List Int := sev (40 * rd l 0 + rd l 1) ++ ((l.drop 2).map sev).flatten
theorem flat_length (l : List Int) : ((l.map sev).flatten).length ≤ 9 * l.length := by
  induction l with
  | nil => simp
  | cons a l ih => have := sev_length a; simp at ih ⊢; omega
theorem allWithin_ev (l : List Int) (a b : Int) (hl : l.length ≤ 1099511627776) : Ev (fun k => impl_allWithin.f k l a b) (l.all (inB a b)) := by
  rw [← all_range_rd, ← Bool.and_true (List.all _ _)]
  refine all_ev (L := fun k i => impl_allWithin.l0 k a b l (l.length : Int) i) l.length ?_ ?_ ?_
  · intro i hi hp r h
    refine Ev.step (fun k => impl_allWithin.l0.eq_2 _ _ _ _ _ _) (ev_pos (by omega) (ev_pos (by omega) (ev_pos (by omega) (ev_bindc (within_eq _ _ _) (ev_pos hp ?_)))))
    rw [w64 (by omega) (by omega)]; exact h
  · intro i hi hp
    exact Ev.step (fun k => impl_allWithin.l0.eq_2 _ _ _ _ _ _) (ev_pos (by omega) (ev_pos (by omega) (ev_pos (by omega) (ev_bindc (within_eq _ _ _) (ev_neg (by unfold inB at hp; rw [hp]; simp) (Ev.now _))))))
  · exact Ev.step (fun k => impl_allWithin.l0.eq_2 _ _ _ _ _ _) (ev_neg (by omega) (Ev.now _))
theorem oidOk_ev (l : List Int) (hl : l.length ≤ 2097152) : Ev (fun k => impl_oidOk.f k l) (oidB l) := by
  have no : Ev (fun k => impl_oidOk.j0 k l true) false := Ev.step (fun k => impl_oidOk.j0.eq_2 _ _ _) (ev_pos rfl (Ev.now _))
  unfold oidB
  refine ev_bindc (within_eq _ _ _) ?_
  change Ev (fun k => if inB 2 12 (l.length : Int) = true then _ else _) _
  cases h1 : inB 2 12 (l.length : Int) with
  | false => exact ev_neg (by simp) no
  | true =>
    have h1' := of_decide_eq_true h1
    refine ev_pos rfl (ev_pos (by omega) (ev_bindc (within_eq _ _ _) ?_))
    change Ev (fun k => impl_oidOk.j0 k l (!(inB 0 2 (rd l 0)))) _
    cases h2 : inB 0 2 (rd l 0) with
    | false => exact no
    | true =>
      refine Ev.step (fun k => impl_oidOk.j0.eq_2 _ _ _) (ev_neg (by simp) (ev_pos (by omega) ?_))
      by_cases c : rd l 0 = 2
      · rw [if_pos c]
        refine ev_pos c (ev_pos (by omega) (ev_bindc (within_eq _ _ _) ?_))
        change Ev (fun k => if inB 0 1000000 (rd l 1) = true then _ else _) _
        cases h3 : inB 0 1000000 (rd l 1) with
        | false => exact ev_neg (by simp) (Ev.now _)
        | true => exact ev_pos rfl (ev_pos (by omega) (Ev.bind (allWithin_ev (l.drop 2) _ _ (by simp; omega)) (Ev.now _)))
      · rw [if_neg c]
        refine ev_neg c (ev_pos (by omega) (ev_bindc (within_eq _ _ _) ?_))
        change Ev (fun k => if inB 0 39 (rd l 1) = true then _ else _) _
        cases h3 : inB 0 39 (rd l 1) with
        | false => exact ev_neg (by simp) (Ev.now _)
        | true => exact ev_pos rfl (ev_pos (by omega) (Ev.bind (allWithin_ev (l.drop 2) _ _ (by simp; omega)) (Ev.now _)))
theorem oidB_parts {l : List Int} (h : oidB l = true) : (2 ≤ l.length ∧ l.length ≤ 12) ∧ (0 ≤ rd l 0 ∧ rd l 0 ≤ 2) ∧ (0 ≤ rd l 1 ∧ rd l 1 ≤ 1000000 ∧ (rd l 0 < 2 → rd l 1 ≤ 39)) ∧ (∀ x ∈ l.drop 2, 0 ≤ x ∧ x ≤ 1000000000) := by
  unfold oidB inB at h
  simp only [Bool.and_eq_true, List.all_eq_true, decide_eq_true_eq] at h
  obtain ⟨a, b, c, d⟩ := h
  refine ⟨by omega, b, ⟨c.1, ?_, ?_⟩, d⟩
  · split at c <;> omega
  · intro h; rw [if_neg (by omega)] at c; exact c.2
theorem drop_cons (l : List Int) (i : Nat) (h : i < l.length) : l.drop i = rd l (i : Int) :: l.drop (i + 1) := by
  rw [List.drop_eq_getElem_cons h]; simp [rd, h]
theorem impl_oid (l : List Int) (hl : l.length ≤ 2097152) : Ev (fun k => impl_OidBytes.f k l) (if oidB l = true then (oidL l, true) else ([], false)) := by
  refine Ev.bind (oidOk_ev l hl) ?_
  cases h : oidB l with
  | false => exact ev_neg (by simp) (Ev.now _)
  | true =>
    obtain ⟨h1, h2, h3, h4⟩ := oidB_parts h
    have e : wrap64 (wrap64 (40 * rd l 0) + rd l 1) = 40 * rd l 0 + rd l 1 := by unfold wrap64; omega
    refine ev_pos rfl (ev_pos (by omega) (ev_pos (by omega) ?_))
    rw [e]
    refine Ev.bind (seven_impl _ (by omega) (by omega)) (ev_pos (by omega) ?_)
    clear e
    have hdl : (l.drop 2).length ≤ 10 := by rw [List.length_drop]; omega
    have key : ∀ (d i : Nat) (acc : List Int), i + d = (l.drop 2).length → acc.length + 9 * d ≤ 1000 → Ev (fun k => impl_OidBytes.l0 k acc (l.drop 2) ((l.drop 2).length : Int) (i : Int)) (acc ++ (((l.drop 2).drop i).map sev).flatten, true) := by
      intro d
      induction d with
      | zero =>
        intro i acc hi ha
        rw [List.drop_of_length_le (i := i) (by omega)]
        refine Ev.step (fun k => impl_OidBytes.l0.eq_2 _ _ _ _ _) (ev_neg (by omega) ?_)
        simpa using Ev.now _
      | succ d ih =>
        intro i acc hi ha
        have hx := h4 _ (rd_mem (xs := l.drop 2) (i := (i : Int)) (by omega) (by omega))
        have hs := sev_length (rd (l.drop 2) (i : Int))
        have := ih (i + 1) (acc ++ sev (rd (l.drop 2) (i : Int))) (by omega) (by simp; omega)
        rw [drop_cons (l.drop 2) i (by omega)]
        refine Ev.step (fun k => impl_OidBytes.l0.eq_2 _ _ _ _ _) (ev_pos (by omega) (ev_pos (by omega) (ev_pos (by omega) (Ev.bind (seven_impl _ (by omega) (by omega)) (ev_pos (by omega) ?_)))))
        rw [w64 (by omega) (by omega)]
        rw [List.map_cons, List.flatten_cons, ← List.append_assoc]
        exact this
    have hs := sev_length (40 * rd l 0 + rd l 1)
    exact key (l.drop 2).length 0 (sev (40 * rd l 0 + rd l 1)) (by omega) (by simp; omega)
theorem spec_oid (l : List Int) (hl : l.length ≤ 2097152) : Ev (fun k => spec_OidBytes.f k l) (if oidB l = true then (oidL l, true) else ([], false)) := by
  have no : Ev (fun k => spec_OidBytes.j0 k l [] true) ([], false) := Ev.step (fun k => spec_OidBytes.j0.eq_2 _ _ _ _) (ev_pos rfl (Ev.now _))
  refine Ev.bind (Ev.now _) (ev_bindc (l1In_eq _ _ _) ?_)
  change Ev (fun k => if inB 2 12 (l.length : Int) = true then _ else _) _
  unfold oidB
  cases h1 : inB 2 12 (l.length : Int) with
  | false => exact ev_neg (by simp) no
  | true =>
    have h1' := of_decide_eq_true h1
    refine ev_pos rfl (ev_pos (by omega) (ev_bindc (l1In_eq _ _ _) ?_))
    change Ev (fun k => if inB 0 2 (rd l 0) = true then _ else _) _
    cases h2 : inB 0 2 (rd l 0) with
    | false => exact ev_neg (by simp) no
    | true =>
      have h2' := of_decide_eq_true h2
      refine ev_pos rfl (ev_pos (by omega) (ev_bindc (l1In_eq _ _ _) ?_))
      change Ev (fun k => if inB 0 1000000 (rd l 1) = true then _ else _) _
      have body : ∀ hz : 0 ≤ rd l 1 ∧ rd l 1 ≤ 1000000, Ev (fun k => spec_OidBytes.j0 k l [] false) (if (l.drop 2).all (inB 0 1000000000) = true then (oidL l, true) else ([], false)) := by
        intro hz
        have e : wrap64 (wrap64 (40 * rd l 0) + rd l 1) = 40 * rd l 0 + rd l 1 := by unfold wrap64; omega
        refine Ev.step (fun k => spec_OidBytes.j0.eq_2 _ _ _ _) (ev_neg (by simp) (ev_pos (by omega) (ev_pos (by omega) ?_)))
        rw [e]
        refine Ev.bind (seven_spec _ (by omega) (by omega)) ?_
        clear e
        have key : ∀ (d i : Nat) (acc : List Int), i + d = l.length → acc.length + 9 * d ≤ 1000 → Ev (fun k => spec_OidBytes.l0 k l [] acc (i : Int)) (if (l.drop i).all (inB 0 1000000000) = true then (acc ++ ((l.drop i).map sev).flatten, true) else ([], false)) := by
          intro d
          induction d with
          | zero =>
            intro i acc hi ha
            rw [List.drop_of_length_le (i := i) (by omega)]
            refine Ev.step (fun k => spec_OidBytes.l0.eq_2 _ _ _ _ _) (ev_neg (by omega) ?_)
            simpa using Ev.now _
          | succ d ih =>
            intro i acc hi ha
            have hs := sev_length (rd l (i : Int))
            have := ih (i + 1) (acc ++ sev (rd l (i : Int))) (by omega) (by simp; omega)
            rw [drop_cons l i (by omega)]
            refine Ev.step (fun k => spec_OidBytes.l0.eq_2 _ _ _ _ _) (ev_pos (by omega) (ev_pos (by omega) (ev_bindc (l1In_eq _ _ _) ?_)))
            change Ev (fun k => if inB 0 1000000000 (rd l (i : Int)) = true then _ else _) _
            cases c : inB 0 1000000000 (rd l (i : Int)) with
            | false =>
              rw [if_neg (by simp [c])]
              exact ev_neg (by simp) (Ev.now _)
            | true =>
              have c' := of_decide_eq_true c
              refine ev_pos rfl (Ev.bind (seven_spec _ (by omega) (by omega)) (ev_pos (by omega) ?_))
              rw [w64 (by omega) (by omega)]
              rw [List.map_cons, List.flatten_cons, ← List.append_assoc, List.all_cons, c, Bool.true_and]
              exact this
        have hs := sev_length (40 * rd l 0 + rd l 1)
        exact key (l.length - 2) 2 (sev (40 * rd l 0 + rd l 1)) (by omega) (by omega)
      by_cases c : rd l 0 = 2
      · rw [if_pos c]
        cases h3 : inB 0 1000000 (rd l 1) with
        | false => exact ev_neg (by simp) no
        | true =>
          exact ev_pos rfl (ev_neg (by omega) (body (of_decide_eq_true h3)))
      · rw [if_neg c]
        cases h3 : inB 0 1000000 (rd l 1) with
        | false =>
          have h3' := of_decide_eq_false h3
          have h4 : inB 0 39 (rd l 1) = false := decide_eq_false (by omega)
          rw [h4]
          exact ev_neg (by simp) no
        | true =>
          have h3' := of_decide_eq_true h3
          refine ev_pos rfl (ev_pos (by omega) ?_)
          by_cases c4 : rd l 1 > 39
          · have h4 : inB 0 39 (rd l 1) = false := decide_eq_false (by omega)
            rw [h4, decide_eq_true c4]
            exact no
          · have h4 : inB 0 39 (rd l 1) = true := decide_eq_true (by omega)
            rw [h4, decide_eq_false c4]
            exact body h3'
/-! ### ReadOid -/
def mx (n b : Int) : Int := if n * 128 + b % 128 < 1099511627776 then n * 128 + b % 128 else 1099511627776
def goS : List Int → Int → List Int → List Int
  | [], _, a => a
  | b :: r, n, a => if b ≥ 128 then goS r (mx n b) a else goS r 0 (a ++ [mx n b])
def goI : List Int → Int → List Int → Option (List Int)
  | [], _, a => some a
  | b :: r, n, a => if n * 128 + b % 128 > 1099511627776 then none else if b < 128 then goI r 0 (a ++ [n * 128 + b % 128]) else goI r (n * 128 + b % 128) a
def firstOf (a : Int) : Int := if 2 < a / 40 then 2 else a / 40
def conv : List Int → List Int
  | [] => []
  | a :: t => firstOf a :: (a - 40 * firstOf a) :: t
def fin (bs a : List Int) : List Int × Bool := if oidB (conv a) = true then (if ((strOfNums (oidL (conv a))).toList == (strOfNums bs).toList) = true then (conv a, true) else ([], false)) else ([], false)
theorem conv_length (a : List Int) : (conv a).length ≤ a.length + 1 := by cases a <;> simp [conv]
theorem conv_snoc (a : List Int) (h : a ≠ []) (x : Int) : conv (a ++ [x]) = conv a ++ [x] := by
  cases a with
  | nil => exact absurd rfl h
  | cons y t => rfl
theorem mx_range {n b : Int} (h0 : 0 ≤ n) (h1 : n ≤ 1099511627776) : 0 ≤ mx n b ∧ mx n b ≤ 1099511627776 := by unfold mx; split <;> omega
theorem fin_S (bs a : List Int) (k1 : (conv a).length ≤ 2097152) : Ev (fun k => (spec_OidBytes.f k (conv a)).bind fun bt160 => (if bt160.2 = true then ((spec_l1Same.f bt160.1 bs).bind fun t164 => (if t164 = true then (some (conv a, true)) else (some (([] : List Int), false)))) else (some (([] : List Int), false)))) (fin bs a) := by
  refine Ev.bind (spec_oid (conv a) k1) ?_
  unfold fin
  cases c : oidB (conv a) with
  | false => exact ev_neg (by simp) (by simpa using Ev.now _)
  | true =>
    refine ev_pos (by simp) ?_
    simp only [if_true]
    exact ev_bindc rfl (ev_ite (fun _ => Ev.now _) (fun _ => Ev.now _))
theorem fin_I (bs a : List Int) (k1 : (conv a).length ≤ 2097152) : Ev (fun k => (impl_OidBytes.f k (conv a)).bind fun bt239 => (if bt239.2 = true then ((bytes_Equal.f bt239.1 bs).bind fun t243 => (if t243 = true then (some (conv a, true)) else (some (([] : List Int), false)))) else (some (([] : List Int), false)))) (fin bs a) := by
  refine Ev.bind (impl_oid (conv a) k1) ?_
  unfold fin
  cases c : oidB (conv a) with
  | false => exact ev_neg (by simp) (by simpa using Ev.now _)
  | true =>
    refine ev_pos (by simp) ?_
    simp only [if_true]
    exact ev_bindc rfl (ev_ite (fun _ => Ev.now _) (fun _ => Ev.now _))
theorem l1Min_eq (a b : Int) : spec_l1Min.f a b = some (if a < b then a else b) := by unfold spec_l1Min.f; split <;> rfl
theorem spec_oid_loop (bs : List Int) (hb : ∀ x ∈ bs, 0 ≤ x ∧ x ≤ 255) (hl : bs.length ≤ 1048576) : ∀ (d i : Nat) (n : Int) (a : List Int), i + d = bs.length → 0 ≤ n → n ≤ 1099511627776 → a.length ≤ i → (∀ x ∈ a, 0 ≤ x ∧ x ≤ 1099511627776) →
    Ev (fun k => spec_ReadOid.l0 k bs [] (conv a) n (i : Int)) (fin bs (goS (bs.drop i) n a)) := by
  intro d
  induction d with
  | zero =>
    intro i n a hi h0 h1 ha hr
    rw [List.drop_of_length_le (by omega), goS]
    have := conv_length a
    exact Ev.step (fun k => spec_ReadOid.l0.eq_2 _ _ _ _ _ _) (ev_neg (by omega) (fin_S bs a (by omega)))
  | succ d ih =>
    intro i n a hi h0 h1 ha hr
    have hx := hb _ (rd_mem (xs := bs) (i := (i : Int)) (by omega) (by omega))
    rw [drop_cons bs i (by omega), goS]
    generalize hbb : rd bs (i : Int) = b at hx
    have hm := mx_range (b := b) h0 h1
    have hw : Aside0 (wrap64 (wrap64 (n * 128) + (wrap64 b).tmod 128) = n * 128 + b % 128) := ⟨by
      rw [w64 (x := b) (by omega) (by omega), w64 (x := n * 128) (by omega) (by omega), Int.tmod_eq_emod_of_nonneg hx.1, w64 (by omega) (by omega)]⟩
    have hi' : Aside0 (wrap64 ((i : Int) + 1) = ((i + 1 : Nat) : Int)) := ⟨by rw [w64 (by omega) (by omega)]; rfl⟩
    refine Ev.step (fun k => spec_ReadOid.l0.eq_2 _ _ _ _ _ _) (ev_pos (by omega) (ev_pos (by omega) ?_))
    rw [hbb, hw.out, hi'.out]
    clear hw hi' hbb
    refine ev_bindc (l1Min_eq _ _) ?_
    have hd : (if n * 128 + b % 128 < 1099511627776 then n * 128 + b % 128 else 1099511627776) = mx n b := rfl
    rw [hd]
    by_cases c : b ≥ 128
    · rw [if_pos c]
      exact ev_pos c (ih (i + 1) (mx n b) a (by omega) hm.1 hm.2 (by omega) hr)
    · rw [if_neg c]
      refine ev_neg c ?_
      have ih' := ih (i + 1) 0 (a ++ [mx n b]) (by omega) (by omega) (by omega) (by simp; omega) (fun x hx => by
        rcases List.mem_append.1 hx with h | h
        · exact hr x h
        · rw [List.mem_singleton.1 h]; exact hm)
      have hcl := conv_length a
      cases a with
      | nil =>
        refine ev_pos (by simp [conv]) (ev_bindc (l1Min_eq _ _) ?_)
        rw [Int.tdiv_eq_ediv_of_nonneg hm.1, w64 (x := mx n b / 40) (by omega) (by omega)]
        change Ev (fun k => if (conv []).length < 17592186044416 then ((some (conv [] ++ [firstOf (mx n b)] : List Int)).bind fun y151 => (if y151.length < 17592186044416 then (spec_ReadOid.l0 k bs [] (y151 ++ [wrap64 (mx n b - (wrap64 (40 * firstOf (mx n b))))]) 0 ((i + 1 : Nat) : Int)) else (none))) else none) _
        have hf : 0 ≤ firstOf (mx n b) ∧ firstOf (mx n b) ≤ 2 := by unfold firstOf; split <;> omega
        refine ev_pos (by simp [conv]) (Ev.bind (Ev.now _) (ev_pos (by simp [conv]) ?_))
        rw [w64 (x := 40 * firstOf (mx n b)) (by omega) (by omega), w64 (by omega) (by omega)]
        exact ih'
      | cons y t =>
        rw [conv_snoc _ (by simp)] at ih'
        refine ev_neg (by simp [conv]; omega) (ev_pos (by omega) ih')
theorem goI_eq (bs : List Int) : ∀ (n : Int) (a a' : List Int), goI bs n a = some a' → goS bs n a = a' := by
  induction bs with
  | nil => intro n a a' h; exact Option.some.inj h
  | cons b r ih =>
    intro n a a' h
    rw [goI] at h
    by_cases c : n * 128 + b % 128 > 1099511627776
    · rw [if_pos c] at h; cases h
    · rw [if_neg c] at h
      have hm : mx n b = n * 128 + b % 128 := by unfold mx; split <;> omega
      rw [goS, hm]
      by_cases c2 : b < 128
      · rw [if_pos c2] at h
        rw [if_neg (by omega)]
        exact ih _ _ _ h
      · rw [if_neg c2] at h
        rw [if_pos (by omega)]
        exact ih _ _ _ h
theorem goS_mem (bs : List Int) : ∀ (n : Int) (a : List Int) (x : Int), x ∈ a → x ∈ goS bs n a := by
  induction bs with
  | nil => intro n a x h; exact h
  | cons b r ih =>
    intro n a x h
    rw [goS]
    split
    · exact ih _ _ _ h
    · exact ih _ _ _ (List.mem_append_left _ h)
theorem goS_sat (bs : List Int) (hb : ∀ x ∈ bs, 0 ≤ x ∧ x ≤ 255) : ∀ (a : List Int), bs = [] ∨ 1099511627776 ∈ goS bs 1099511627776 a ∨ ∃ b, bs.getLast? = some b ∧ b ≥ 128 := by
  induction bs with
  | nil => exact fun _ => .inl rfl
  | cons b r ih =>
    intro a
    have hm : mx 1099511627776 b = 1099511627776 := by unfold mx; rw [if_neg (by omega)]
    rw [goS, hm]
    by_cases c : b ≥ 128
    · rw [if_pos c]
      rcases ih (fun x hx => hb x (List.mem_cons_of_mem _ hx)) a with h | h | ⟨y, h, hy⟩
      · exact .inr (.inr ⟨b, by rw [h]; rfl, c⟩)
      · exact .inr (.inl h)
      · exact .inr (.inr ⟨y, by rw [List.getLast?_cons, h]; rfl, hy⟩)
    · rw [if_neg c]
      exact .inr (.inl (goS_mem _ _ _ _ (List.mem_append_right _ (List.mem_singleton.2 rfl))))
theorem goI_none (bs : List Int) (hb : ∀ x ∈ bs, 0 ≤ x ∧ x ≤ 255) : ∀ (n : Int) (a : List Int), 0 ≤ n → goI bs n a = none → 1099511627776 ∈ goS bs n a ∨ ∃ b, bs.getLast? = some b ∧ b ≥ 128 := by
  induction bs with
  | nil => intro n a _ h; cases h
  | cons b r ih =>
    intro n a h0 h
    have hb' : ∀ x ∈ r, 0 ≤ x ∧ x ≤ 255 := fun x hx => hb x (List.mem_cons_of_mem _ hx)
    rw [goI] at h
    rw [goS]
    by_cases c : n * 128 + b % 128 > 1099511627776
    · have hm : mx n b = 1099511627776 := by unfold mx; rw [if_neg (by omega)]
      rw [hm]
      by_cases c2 : b ≥ 128
      · rw [if_pos c2]
        rcases goS_sat r hb' a with h | h | ⟨y, h, hy⟩
        · exact .inr ⟨b, by rw [h]; rfl, c2⟩
        · exact .inl h
        · exact .inr ⟨y, by rw [List.getLast?_cons, h]; rfl, hy⟩
      · rw [if_neg c2]
        exact .inl (goS_mem _ _ _ _ (List.mem_append_right _ (List.mem_singleton.2 rfl)))
    · rw [if_neg c] at h
      have hm : mx n b = n * 128 + b % 128 := by unfold mx; split <;> omega
      rw [hm]
      have step : ∀ m (a2 : List Int), 0 ≤ m → goI r m a2 = none → 1099511627776 ∈ goS r m a2 ∨ ∃ y, (b :: r).getLast? = some y ∧ y ≥ 128 := fun m a2 hm h => by
        rcases ih hb' m a2 hm h with h | ⟨y, h, hy⟩
        · exact .inl h
        · exact .inr ⟨y, by rw [List.getLast?_cons, h]; rfl, hy⟩
      by_cases c2 : b < 128
      · rw [if_pos c2] at h
        rw [if_neg (by omega)]
        exact step _ _ (by omega) h
      · rw [if_neg c2] at h
        rw [if_pos (by omega)]
        exact step _ _ (by omega) h
theorem big_no (a : List Int) (h : 1099511627776 ∈ a) : oidB (conv a) = false := by
  cases a with
  | nil => cases h
  | cons y t =>
    cases c : oidB (conv (y :: t)) with
    | false => rfl
    | true =>
      obtain ⟨_, _, h3, h4⟩ := oidB_parts c
      rcases List.mem_cons.1 h with e | e
      · subst e
        have : rd (conv (1099511627776 :: t)) 1 = 1099511627776 - 80 := rfl
        omega
      · have := h4 _ (by simpa [conv] using e)
        omega
theorem sv_last : ∀ (f : Nat) (x : Int) (acc : List Int), acc ≠ [] → (sv f x acc).getLast? = acc.getLast? := by
  intro f
  induction f with
  | zero => intro x acc _; rfl
  | succ f ih =>
    intro x acc h
    unfold sv
    split
    · rw [ih _ _ (by simp), List.getLast?_cons]
      cases acc with
      | nil => exact absurd rfl h
      | cons y t => rw [List.getLast?_cons]; rfl
    · rfl
def LastLow (l : List Int) : Prop := ∀ y, l.getLast? = some y → 0 ≤ y ∧ y < 128
theorem LastLow.append {a b : List Int} (ha : LastLow a) (hb : LastLow b) : LastLow (a ++ b) := by
  intro y h
  rw [List.getLast?_append] at h
  cases c : b.getLast? with
  | none => rw [c] at h; exact ha y (by simpa using h)
  | some z => rw [c] at h; exact hb y (by rw [c]; simpa using h)
theorem sev_low (n : Int) : LastLow (sev n) := by
  intro y h
  unfold sev at h
  rw [sv_last _ _ _ (by simp)] at h
  have : y = n % 128 := by simpa using h.symm
  omega
theorem oidL_low (l : List Int) : LastLow (oidL l) := by
  refine (sev_low _).append ?_
  induction l.drop 2 with
  | nil => intro y h; cases h
  | cons x t ih => exact (sev_low x).append ih
theorem str_lists {a b : List Int} (h : ((strOfNums a).toList == (strOfNums b).toList) = true) : a.map (fun n => UInt8.ofNat n.toNat) = b.map (fun n => UInt8.ofNat n.toNat) := by
  have h2 := eq_of_beq h
  have e : ∀ l : List Int, (strOfNums l).toList = l.map (fun n => UInt8.ofNat n.toNat) := fun l => Lib.strOfNums_toList l
  rw [e, e] at h2
  exact h2
theorem fin_no (bs a : List Int) (hb : ∀ x ∈ bs, 0 ≤ x ∧ x ≤ 255) (h : 1099511627776 ∈ a ∨ (∃ b, bs.getLast? = some b ∧ b ≥ 128) ∨ 100 < bs.length) : fin bs a = ([], false) := by
  unfold fin
  cases c : oidB (conv a) with
  | false => rfl
  | true =>
    rw [if_pos rfl]
    rcases h with h | ⟨b, h1, h2⟩ | h
    · rw [big_no a h] at c; cases c
    · refine if_neg (fun e => ?_)
      have e2 := congrArg List.getLast? (str_lists e)
      rw [List.getLast?_map, List.getLast?_map, h1] at e2
      cases g : (oidL (conv a)).getLast? with
      | none => rw [g] at e2; cases e2
      | some y =>
        rw [g] at e2
        have hy := oidL_low _ y g
        have hbb := hb b (List.mem_of_getLast? h1)
        have e3 := congrArg UInt8.toNat (Option.some.inj e2)
        simp only [UInt8.toNat_ofNat'] at e3
        omega
    · refine if_neg (fun e => ?_)
      have e2 := congrArg List.length (str_lists e)
      rw [List.length_map, List.length_map] at e2
      obtain ⟨p, _⟩ := oidB_parts c
      have h2 := sev_length (40 * rd (conv a) 0 + rd (conv a) 1)
      have h3 := flat_length ((conv a).drop 2)
      simp only [oidL, List.length_append] at e2
      rw [List.length_drop] at h3
      omega
theorem oidB_nil : oidB [] = false := by simp [oidB, inB]
theorem insert_eq (h f : Int) (t : List Int) (hl : (h :: t).length < 1099511627776) : Hand.slices_Insert_int.f (h :: t) 0 [f] = some (f :: h :: t) := by
  unfold Hand.slices_Insert_int.f
  rw [if_pos (by omega), if_pos (by omega), if_pos (show [f].length = 1 from rfl), if_pos hl]
  rfl
set_option maxRecDepth 100000 in
theorem or_low (n b : Int) (h0 : 0 ≤ n) (h1 : n ≤ 1099511627776) (hx : 0 ≤ b ∧ b ≤ 255) : Go.bits .or .i64 (wrap64 (n * 128)) (wrap64 (Go.bits .and .u8 b 127)) = n * 128 + b % 128 := by
  have e : Go.bits .and .u8 b 127 = b % 128 := by
    obtain ⟨m, rfl⟩ : ∃ m : Nat, b = (m : Int) := ⟨b.toNat, by omega⟩
    have hm : m < 256 := by omega
    have : ∀ m : Fin 256, Go.bits .and .u8 ((m.1 : Nat) : Int) 127 = ((m.1 : Nat) : Int) % 128 := by decide
    exact this ⟨m, hm⟩
  rw [e, w64 (x := n * 128) (by omega) (by omega), w64 (x := b % 128) (by omega) (by omega)]
  exact or_add 7 (by decide) (by omega) (by omega) (by omega) (by omega) (by omega)
theorem impl_oid_loop (bs : List Int) (hb : ∀ x ∈ bs, 0 ≤ x ∧ x ≤ 255) (hl : bs.length ≤ 1048576) : ∀ (d i : Nat) (n : Int) (a : List Int), i + d = bs.length → 0 ≤ n → n ≤ 1099511627776 → a.length ≤ i → (∀ x ∈ a, 0 ≤ x ∧ x ≤ 1099511627776) →
    Ev (fun k => impl_ReadOid.l0 k bs a n bs (bs.length : Int) (i : Int)) (match goI (bs.drop i) n a with | none => ([], false) | some a' => fin bs a') := by
  intro d
  induction d with
  | zero =>
    intro i n a hi h0 h1 ha hr
    rw [List.drop_of_length_le (by omega), goI]
    refine Ev.step (fun k => impl_ReadOid.l0.eq_2 _ _ _ _ _ _ _) (ev_neg (by omega) ?_)
    cases a with
    | nil =>
      have : fin bs [] = ([], false) := by simp [fin, conv, oidB_nil]
      rw [show (match some [] with | none => (([] : List Int), false) | some a' => fin bs a') = fin bs [] from rfl, this]
      exact ev_pos rfl (Ev.now _)
    | cons h t =>
      have hh := hr h (by simp)
      have hlt : (h :: t).length ≤ 1048576 := by omega
      simp only [List.length_cons] at hlt
      have hf : mn 2 (wrap64 (Int.tdiv (rd (h :: t) 0) 40)) = firstOf h := by
        rw [show rd (h :: t) 0 = h from rfl, Int.tdiv_eq_ediv_of_nonneg hh.1, w64 (x := h / 40) (by omega) (by omega)]
        unfold mn firstOf
        split <;> split <;> omega
      have hf2 : 0 ≤ firstOf h ∧ firstOf h ≤ 2 := by unfold firstOf; split <;> omega
      refine ev_neg (by simp; try omega) (ev_pos (by simp; try omega) ?_)
      rw [hf]
      refine ev_bindc (insert_eq h (firstOf h) t (by simp; try omega)) (ev_pos (by simp; try omega) (Ev.bind (Ev.now _) ?_))
      rw [show rd (firstOf h :: h :: t) 1 = h from rfl, w64 (x := 40 * firstOf h) (by omega) (by omega), w64 (x := h - 40 * firstOf h) (by omega) (by omega)]
      exact fin_I bs (h :: t) (by simp [conv]; omega)
  | succ d ih =>
    intro i n a hi h0 h1 ha hr
    have hx := hb _ (rd_mem (xs := bs) (i := (i : Int)) (by omega) (by omega))
    rw [drop_cons bs i (by omega), goI]
    generalize hbb : rd bs (i : Int) = b at hx
    have hi' : Aside0 (wrap64 ((i : Int) + 1) = ((i + 1 : Nat) : Int)) := ⟨by rw [w64 (by omega) (by omega)]; rfl⟩
    refine Ev.step (fun k => impl_ReadOid.l0.eq_2 _ _ _ _ _ _ _) (ev_pos (by omega) (ev_pos (by omega) (ev_pos (by omega) ?_)))
    rw [hbb, or_low n b h0 h1 hx, hi'.out]
    clear hi' hbb
    by_cases c : n * 128 + b % 128 > 1099511627776
    · rw [if_pos c]
      exact ev_pos c (Ev.now _)
    · rw [if_neg c]
      refine ev_neg c ?_
      by_cases c2 : b < 128
      · rw [if_pos c2]
        exact ev_pos c2 (ev_pos (by omega) (ih (i + 1) 0 (a ++ [n * 128 + b % 128]) (by omega) (by omega) (by omega) (by simp; omega) (fun x hx => by
          rcases List.mem_append.1 hx with h | h
          · exact hr x h
          · rw [List.mem_singleton.1 h]; omega)))
      · rw [if_neg c2]
        exact ev_neg c2 (ih (i + 1) _ a (by omega) (by omega) (by omega) (by omega) hr)
theorem readOid_both (bs : List Int) (hb : ∀ x ∈ bs, 0 ≤ x ∧ x ≤ 255) (hl : bs.length ≤ 1048576) : ∃ r, Ev (fun k => spec_ReadOid.f k bs) r ∧ Ev (fun k => impl_ReadOid.f k bs) r ∧ r.1.length ≤ 1048577 := by
  have h1 := spec_oid_loop bs hb hl bs.length 0 0 [] (by omega) (by omega) (by omega) (by simp) (fun _ h => by cases h)
  rw [List.drop_zero] at h1
  have hlen : ∀ a, (fin bs a).1.length ≤ 12 := by
    intro a
    unfold fin
    cases c : oidB (conv a) with
    | false => simp
    | true =>
      obtain ⟨p, _⟩ := oidB_parts c
      rw [if_pos rfl]
      split
      · exact p.2
      · simp
  refine ⟨_, h1, ?_, by have := hlen (goS bs 0 []); omega⟩
  by_cases c : (bs.length : Int) > 100
  · rw [fin_no bs _ hb (.inr (.inr (by omega)))]
    exact ev_pos c (Ev.now _)
  · have h2 := impl_oid_loop bs hb hl bs.length 0 0 [] (by omega) (by omega) (by omega) (by simp) (fun _ h => by cases h)
    rw [List.drop_zero] at h2
    cases g : goI bs 0 [] with
    | none =>
      rw [g] at h2
      rw [fin_no bs _ hb ((goI_none bs hb 0 [] (by omega) g).imp id .inl)]
      exact ev_neg c h2
    | some a' =>
      rw [g] at h2
      rw [goI_eq bs 0 [] a' g]
      exact ev_neg c h2
def mI : Int → Nat → List Int
  | _, 0 => []
  | m, n + 1 => m :: mI (m + 1) n
theorem mI_length : ∀ (n : Nat) (m : Int), (mI m n).length = n
  | 0, _ => rfl
  | n + 1, m => by simp [mI, mI_length n]
theorem markI_ev {L : Nat → List Int → Int → Int → Option (Int × List Int)}
    (hL : ∀ k x0 x1 x5, L (k + 1) x0 x1 x5 = if x5 < (x0.length : Int) then (if 0 ≤ x5 then (L k (x0.set (x5 : Int).toNat x1) (wrap64 (x1 + 1)) (wrap64 (x5 + 1))) else none) else some (x1, x0)) :
    ∀ (rest pre : List Int) (m : Int), pre.length + rest.length ≤ 1099511627776 → 0 ≤ m → m + rest.length ≤ 1099511627776 → Ev (fun k => L k (pre ++ rest) m (pre.length : Int)) (m + rest.length, pre ++ mI m rest.length)
  | [], pre, m, _, _, _ => by
    refine Ev.step (fun k => hL _ _ _ _) (ev_neg (by simp) ?_)
    simpa [mI] using Ev.now _
  | a :: t, pre, m, h1, h2, h3 => by
    simp only [List.length_cons] at h1 h3
    have ih := markI_ev hL t (pre ++ [m]) (m + 1) (by simp; omega) (by omega) (by omega)
    refine Ev.step (fun k => hL _ _ _ _) (ev_pos (by simp; omega) (ev_pos (by omega) ?_))
    rw [w64 (x := m + 1) (by omega) (by omega), w64 (x := (pre.length : Int) + 1) (by omega) (by omega)]
    have e : (pre ++ a :: t).set (pre.length : Int).toNat m = pre ++ [m] ++ t := by
      rw [Int.toNat_natCast, List.set_append_right _ _ (Nat.le_refl _)]
      simp
    rw [e]
    have e2 : ((pre ++ [m]).length : Int) = (pre.length : Int) + 1 := by simp
    rw [e2] at ih
    have e3 : (m + ((a :: t).length : Int), pre ++ mI m (a :: t).length) = (m + 1 + (t.length : Int), pre ++ [m] ++ mI (m + 1) t.length) := by
      simp [mI]
      omega
    rw [e3]
    exact ih
theorem heldI_ev {H : Nat → List Int → Int → Int → Option Int}
    (hH : ∀ k x0 x1 x5, H (k + 1) x0 x1 x5 = if x5 < (x0.length : Int) then (if 0 ≤ x5 then (if (rd x0 x5) = x1 then (H k x0 (wrap64 (x1 + 1)) (wrap64 (x5 + 1))) else (some (-1))) else none) else some x1) :
    ∀ (n : Nat) (pre : List Int) (m : Int), pre.length + n ≤ 1099511627776 → 0 ≤ m → m + n ≤ 1099511627776 → Ev (fun k => H k (pre ++ mI m n) m (pre.length : Int)) (m + n)
  | 0, pre, m, _, _, _ => by
    refine Ev.step (fun k => hH _ _ _ _) (ev_neg (by simp [mI]) ?_)
    simpa using Ev.now _
  | n + 1, pre, m, h1, h2, h3 => by
    have ih := heldI_ev hH n (pre ++ [m]) (m + 1) (by simp; omega) (by omega) (by omega)
    refine Ev.step (fun k => hH _ _ _ _) (ev_pos (by simp [mI]; omega) (ev_pos (by omega) (ev_pos (by simp [rd, mI]) ?_)))
    rw [w64 (x := m + 1) (by omega) (by omega), w64 (x := (pre.length : Int) + 1) (by omega) (by omega)]
    have e2 : ((pre ++ [m]).length : Int) = (pre.length : Int) + 1 := by simp
    rw [e2, List.append_assoc, show [m] ++ mI (m + 1) n = mI m (n + 1) from rfl] at ih
    rw [show m + ((n + 1 : Nat) : Int) = m + 1 + (n : Int) by omega]
    exact ih
theorem toByteS_ev (l : List Int) (hl : l.length ≤ 1048576) : Ev (fun k => laws_toByteS.f k l) l := by
  refine ev_pos (by omega) (ev_pos (by omega) ?_)
  rw [show ((l.length : Int) : Int).toNat = l.length by omega]
  exact copy_ev (L := laws_toByteS.l0) (fun _ _ _ _ => rfl) l (by omega)
theorem eqIntS_ev (l : List Int) (hl : l.length ≤ 1048577) : Ev (fun k => laws_eqIntS.f k l l) true :=
  ev_pos rfl (by simpa using eq_ev (L := laws_eqIntS.l0) (fun _ _ _ _ => rfl) l l (by omega) rfl)
theorem FnExactReadOid : laws_FnExactReadOid.Pure := by
  intro l _ _ hw
  by_cases c0 : (l.length : Int) > 1048576
  · exact ev_k (ev_pos c0 (Ev.now _))
  have hb : ∀ x ∈ l, 0 ≤ x ∧ x ≤ 255 := fun x hx => wf8 (hw x hx)
  have h := toByteS_ev l (by omega)
  obtain ⟨R, hs, hi, hR⟩ := readOid_both l hb (by omega)
  obtain ⟨r, b⟩ := R
  replace hR : r.length ≤ 1048577 := hR
  obtain ⟨y, hy, hm⟩ : ∃ y, y.length = l.length ∧ Ev (fun k => laws_markByteS.f k l 1) (1 + (l.length : Int), y) :=
    ⟨_, marked_length _ _, mark_ev (L := laws_markByteS.l0) (fun _ _ _ _ => rfl) l 1 (by omega) (by omega) (by omega)⟩
  have hn : ∀ n : Nat, ¬ (1 + (n : Int)) < 0 := fun n => by omega
  have he := eqIntS_ev r (by omega)
  have hmi := markI_ev (L := laws_markIntS.l0) (fun _ _ _ _ => rfl) r [] 1 (by simp; omega) (by omega) (by omega)
  have hhi := heldI_ev (H := laws_heldIntS.l0) (fun _ _ _ _ => rfl) r.length [] 1 (by simp; omega) (by omega) (by omega)
  refine ev_k (ev_neg c0 (Ev.bind h (Ev.bind hs (Ev.bind h (Ev.bind hi (Ev.bind he (ev_pos rfl ?_)))))))
  refine Ev.step (fun k => laws_FnExactReadOid.j0.eq_2 _ _ _ _ _ _ _ _) (ev_neg (by simp) (Ev.bind h (Ev.bind (eqByteS_ev l (by omega)) (ev_pos rfl (Ev.bind hm (ev_neg (hn _) (Ev.bind he (ev_pos rfl ?_))))))))
  refine Ev.step (fun k => laws_FnExactReadOid.j1.eq_2 _ _ _ _ _ _) (ev_neg (by simp) (Ev.bind hmi (Ev.bind hhi (ev_neg (hn _) (ev_pos rfl (Ev.bind h (Ev.bind hi (Ev.bind he (ev_pos rfl ?_)))))))))
  exact Ev.step (fun k => laws_FnExactReadOid.j2.eq_2 _ _ _ _) (ev_neg (by simp) (Ev.bind hhi (ev_neg (hn _) (ev_pos rfl (Ev.now _)))))

end Go.Proofs.Ythhomopijhopfaa.Pure
