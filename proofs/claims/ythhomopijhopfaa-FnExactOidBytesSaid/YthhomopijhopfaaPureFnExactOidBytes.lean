/- The program's OidBytes returns what the reference's returns, for all arguments that the law lets in. -/
import Derived.Test.YthhomopijhopfaaGFnExactOidBytesx5
import Derived.Test.YthhomopijhopfaaBase
namespace Go.Proofs.Ythhomopijhopfaa.Pure
open Go.RowKit Go.Proofs.Ythhomopijhopfaa.GFnExactOidBytes Go.Proofs.YthhomopijhopfaaW.PrintWords Go.Proofs.YthhomopijhopfaaW.PrintLast Go.Proofs.Ythhomopijhopfaa.Base
set_option linter.unusedVariables false
set_option linter.unusedSimpArgs false

theorem l1In_eq (x a b : Int) : spec_l1In.f x a b = some (decide (a ≤ x ∧ x ≤ b)) := by
  unfold spec_l1In.f
  by_cases h : x ≥ a
  · rw [if_pos h]; simp [show a ≤ x from h]
  · rw [if_neg h]; simp [show ¬ a ≤ x from h]
theorem within_eq (x a b : Int) : impl_within.f x a b = some (decide (a ≤ x ∧ x ≤ b)) := l1In_eq x a b
theorem toIntS_ev (l : List Int) (hl : l.length ≤ 1048576) : Ev (fun k => laws_toIntS.f k l) l := by
  refine ev_pos (by omega) (ev_pos (by omega) ?_)
  rw [show ((l.length : Int) : Int).toNat = l.length by omega]
  exact copy_ev (L := laws_toIntS.l0) (fun _ _ _ _ => rfl) l (by omega)
theorem eqIntS_ev (l : List Int) (hl : l.length ≤ 1048576) : Ev (fun k => laws_eqIntS.f k l l) true :=
  ev_pos rfl (by simpa using eq_ev (L := laws_eqIntS.l0) (fun _ _ _ _ => rfl) l l (by omega) rfl)
theorem eqByteS_ev (l : List Int) (hl : l.length ≤ 1048576) : Ev (fun k => laws_eqByteS.f k l l) true :=
  ev_pos rfl (by simpa using eq_ev (L := laws_eqByteS.l0) (fun _ _ _ _ => rfl) l l (by omega) rfl)
theorem markB_ev (r : List Int) (hl : r.length ≤ 1048576) : Ev (fun k => laws_markByteS.f k r 1) (1 + (r.length : Int), marked 1 r.length) := mark_ev (L := laws_markByteS.l0) (fun _ _ _ _ => rfl) r 1 (by omega) (by omega) (by omega)
theorem heldB_ev (n : Nat) (hl : n ≤ 1048576) : Ev (fun k => laws_heldByteS.f k (marked 1 n) 1) (1 + (n : Int)) := held_ev (L := laws_heldByteS.l0) (fun _ _ _ _ => rfl) n 1 (by omega) (by omega) (by omega)
/-! ### OidBytes -/
/-- the groups of seven bits of a number, put ahead of what is there -/
def sv : Nat → Int → List Int → List Int
  | 0, _, acc => acc
  | f + 1, x, acc => if x > 0 then sv f (x / 128) ((128 + x % 128) :: acc) else acc
def sev (n : Int) : List Int := sv 8 (n / 128) [n % 128]
theorem sv_length : ∀ (f : Nat) (x : Int) (acc : List Int), (sv f x acc).length ≤ f + acc.length := by
  intro f
  induction f with
  | zero => intro x acc; simp [sv]
  | succ f ih =>
    intro x acc
    unfold sv
    split
    · have := ih (x / 128) ((128 + x % 128) :: acc)
      simp at this; omega
    · omega
theorem sev_length (n : Int) : (sev n).length ≤ 9 := by
  have := sv_length 8 (n / 128) [n % 128]
  unfold sev; simpa using this
theorem pow128_le {i j : Nat} (h : i ≤ j) : (128 : Int) ^ i ≤ 128 ^ j := by
  have := Nat.pow_le_pow_right (n := 128) (by decide) h
  rw [← Int.ofNat_le] at this
  rwa [Int.natCast_pow, Int.natCast_pow] at this
theorem seven_spec_loop : ∀ (f : Nat) (x : Int) (acc : List Int), 0 ≤ x → x < 128 ^ f → f ≤ 8 → acc.length + f ≤ 1000 → Ev (fun k => spec_l7Seven.l0 k x acc) (sv f x acc) := by
  intro f
  induction f with
  | zero =>
    intro x acc h0 h1 _ _
    exact Ev.step (fun k => spec_l7Seven.l0.eq_2 _ _ _) (ev_neg (by omega) (Ev.now _))
  | succ f ih =>
    intro x acc h0 h1 hf ha
    unfold sv
    by_cases c : x > 0
    · rw [if_pos c]
      have hx : x / 128 < 128 ^ f := by rw [Int.pow_succ] at h1; omega
      have hb : x < 2 ^ 62 := by
        have := pow128_le hf
        omega
      refine Ev.step (fun k => spec_l7Seven.l0.eq_2 _ _ _) (ev_pos c (Ev.bind (Ev.now _) (ev_pos (by simp; omega) ?_)))
      rw [Int.tmod_eq_emod_of_nonneg h0, Int.tdiv_eq_ediv_of_nonneg h0, w64 (x := x / 128) (by omega) (by omega), w64 (x := 128 + x % 128) (by omega) (by omega), show (128 + x % 128) % 256 = 128 + x % 128 by omega]
      exact ih _ _ (by omega) hx (by omega) (by simp; omega)
    · rw [if_neg c]; exact Ev.step (fun k => spec_l7Seven.l0.eq_2 _ _ _) (ev_neg c (Ev.now _))
theorem seven_spec (n : Int) (h0 : 0 ≤ n) (h1 : n < 128 ^ 8) : Ev (fun k => spec_l7Seven.f k n) (sev n) := by
  unfold spec_l7Seven.f sev
  rw [Int.tmod_eq_emod_of_nonneg h0, Int.tdiv_eq_ediv_of_nonneg h0, w64 (x := n / 128) (by omega) (by omega), show n % 128 % 256 = n % 128 by omega]
  exact seven_spec_loop 8 _ _ (by omega) (by omega) (by decide) (by simp)
theorem seven_impl_loop : ∀ (f : Nat) (x : Int) (acc : List Int), 0 ≤ x → x < 128 ^ f → f ≤ 8 → acc.length + f ≤ 1000 → Ev (fun k => impl_sevens.l0 k x acc) (sv f x acc.reverse) := by
  have stop : ∀ acc : List Int, acc.length ≤ 1000 → Ev (fun k => (slices_Reverse_byte_byte.f k acc).bind fun t => some t) acc.reverse := fun acc h =>
    Ev.bind (rev_ev (L := slices_Reverse_byte_byte.l0) (fun _ _ _ _ => rfl) acc (by omega)) (Ev.now _)
  intro f
  induction f with
  | zero =>
    intro x acc h0 h1 _ ha
    exact Ev.step (fun k => impl_sevens.l0.eq_2 _ _ _) (ev_neg (by omega) (stop acc (by omega)))
  | succ f ih =>
    intro x acc h0 h1 hf ha
    unfold sv
    by_cases c : x > 0
    · rw [if_pos c]
      have hx : x / 128 < 128 ^ f := by rw [Int.pow_succ] at h1; omega
      have hb : x < 2 ^ 62 := by
        have := pow128_le hf
        omega
      refine Ev.step (fun k => impl_sevens.l0.eq_2 _ _ _) (ev_pos c (ev_pos (by omega) ?_))
      have e1 : Go.bits .and .i64 x 127 = x % 128 := and_mask 7 (by decide) h0 hb
      have e2 : Go.bits .or .i64 (x % 128) 128 = 128 + x % 128 := by
        rw [bits_or_comm]; exact or_add 7 (by decide) (by decide) (by decide) (by decide) (by omega) (by omega)
      rw [e1, e2, show (128 + x % 128) % 256 = 128 + x % 128 by omega]
      have := ih (x / 128) (acc ++ [128 + x % 128]) (by omega) hx (by omega) (by simp; omega)
      rw [List.reverse_append] at this
      exact this
    · rw [if_neg c]; exact Ev.step (fun k => impl_sevens.l0.eq_2 _ _ _) (ev_neg c (stop acc (by omega)))
theorem seven_impl (n : Int) (h0 : 0 ≤ n) (h1 : n < 128 ^ 8) : Ev (fun k => impl_sevens.f k n) (sev n) := by
  unfold impl_sevens.f sev
  have e1 : Go.bits .and .i64 n 127 = n % 128 := and_mask 7 (by decide) h0 (by omega)
  rw [e1, show n % 128 % 256 = n % 128 by omega]
  exact seven_impl_loop 8 _ [n % 128] (by omega) (by omega) (by decide) (by simp)
/-- when numbers have bytes -/
def inB (a b x : Int) : Bool := decide (a ≤ x ∧ x ≤ b)
def oidB (l : List Int) : Bool := inB 2 12 (l.length : Int) && (inB 0 2 (rd l 0) && (inB 0 (if rd l 0 = 2 then 1000000 else 39) (rd l 1) && (l.drop 2).all (inB 0 1000000000)))
def oidL (l : List Int) : List Int := sev (40 * rd l 0 + rd l 1) ++ ((l.drop 2).map sev).flatten
theorem flat_length (l : List Int) : ((l.map sev).flatten).length ≤ 9 * l.length := by
  induction l with
  | nil => simp
  | cons a l ih => have := sev_length a; simp at ih ⊢; omega
theorem allWithin_ev (l : List Int) (a b : Int) (hl : l.length ≤ 1099511627776) : Ev (fun k => impl_allWithin.f k l a b) (l.all (inB a b)) := by
  rw [← all_range_rd, ← Bool.and_true (List.all _ _)]
  refine all_ev (L := fun k i => impl_allWithin.l0 k a b l (l.length : Int) i) l.length ?_ ?_ ?_
  · intro i hi hp r h
    refine Ev.step (fun k => impl_allWithin.l0.eq_2 _ _ _ _ _ _) (ev_pos (by omega) (ev_pos (by omega) (ev_pos (by omega) (ev_bindc (within_eq _ _ _) (ev_pos hp ?_)))))
    rw [w64 (by omega) (by omega)]; exact h
  · intro i hi hp
    exact Ev.step (fun k => impl_allWithin.l0.eq_2 _ _ _ _ _ _) (ev_pos (by omega) (ev_pos (by omega) (ev_pos (by omega) (ev_bindc (within_eq _ _ _) (ev_neg (by unfold inB at hp; rw [hp]; simp) (Ev.now _))))))
  · exact Ev.step (fun k => impl_allWithin.l0.eq_2 _ _ _ _ _ _) (ev_neg (by omega) (Ev.now _))
theorem oidOk_ev (l : List Int) (hl : l.length ≤ 1048576) : Ev (fun k => impl_oidOk.f k l) (oidB l) := by
  have no : Ev (fun k => impl_oidOk.j0 k l true) false := Ev.step (fun k => impl_oidOk.j0.eq_2 _ _ _) (ev_pos rfl (Ev.now _))
  unfold oidB
  refine ev_bindc (within_eq _ _ _) ?_
  change Ev (fun k => if inB 2 12 (l.length : Int) = true then _ else _) _
  cases h1 : inB 2 12 (l.length : Int) with
  | false => exact ev_neg (by simp) no
  | true =>
    have h1' := of_decide_eq_true h1
    refine ev_pos rfl (ev_pos (by omega) (ev_bindc (within_eq _ _ _) ?_))
    change Ev (fun k => impl_oidOk.j0 k l (!(inB 0 2 (rd l 0)))) _
    cases h2 : inB 0 2 (rd l 0) with
    | false => exact no
    | true =>
      refine Ev.step (fun k => impl_oidOk.j0.eq_2 _ _ _) (ev_neg (by simp) (ev_pos (by omega) ?_))
      by_cases c : rd l 0 = 2
      · rw [if_pos c]
        refine ev_pos c (ev_pos (by omega) (ev_bindc (within_eq _ _ _) ?_))
        change Ev (fun k => if inB 0 1000000 (rd l 1) = true then _ else _) _
        cases h3 : inB 0 1000000 (rd l 1) with
        | false => exact ev_neg (by simp) (Ev.now _)
        | true => exact ev_pos rfl (ev_pos (by omega) (Ev.bind (allWithin_ev (l.drop 2) _ _ (by simp; omega)) (Ev.now _)))
      · rw [if_neg c]
        refine ev_neg c (ev_pos (by omega) (ev_bindc (within_eq _ _ _) ?_))
        change Ev (fun k => if inB 0 39 (rd l 1) = true then _ else _) _
        cases h3 : inB 0 39 (rd l 1) with
        | false => exact ev_neg (by simp) (Ev.now _)
        | true => exact ev_pos rfl (ev_pos (by omega) (Ev.bind (allWithin_ev (l.drop 2) _ _ (by simp; omega)) (Ev.now _)))
theorem oidB_parts {l : List Int} (h : oidB l = true) : (2 ≤ l.length ∧ l.length ≤ 12) ∧ (0 ≤ rd l 0 ∧ rd l 0 ≤ 2) ∧ (0 ≤ rd l 1 ∧ rd l 1 ≤ 1000000 ∧ (rd l 0 < 2 → rd l 1 ≤ 39)) ∧ (∀ x ∈ l.drop 2, 0 ≤ x ∧ x ≤ 1000000000) := by
  unfold oidB inB at h
  simp only [Bool.and_eq_true, List.all_eq_true, decide_eq_true_eq] at h
  obtain ⟨a, b, c, d⟩ := h
  refine ⟨by omega, b, ⟨c.1, ?_, ?_⟩, d⟩
  · split at c <;> omega
  · intro h; rw [if_neg (by omega)] at c; exact c.2
theorem drop_cons (l : List Int) (i : Nat) (h : i < l.length) : l.drop i = rd l (i : Int) :: l.drop (i + 1) := by
  rw [List.drop_eq_getElem_cons h]; simp [rd, h]
theorem impl_oid (l : List Int) (hl : l.length ≤ 1048576) : Ev (fun k => impl_OidBytes.f k l) (if oidB l = true then (oidL l, true) else ([], false)) := by
  refine Ev.bind (oidOk_ev l hl) ?_
  cases h : oidB l with
  | false => exact ev_neg (by simp) (Ev.now _)
  | true =>
    obtain ⟨h1, h2, h3, h4⟩ := oidB_parts h
    have e : wrap64 (wrap64 (40 * rd l 0) + rd l 1) = 40 * rd l 0 + rd l 1 := by unfold wrap64; omega
    refine ev_pos rfl (ev_pos (by omega) (ev_pos (by omega) ?_))
    rw [e]
    refine Ev.bind (seven_impl _ (by omega) (by omega)) (ev_pos (by omega) ?_)
    clear e
    have hdl : (l.drop 2).length ≤ 10 := by rw [List.length_drop]; omega
    have key : ∀ (d i : Nat) (acc : List Int), i + d = (l.drop 2).length → acc.length + 9 * d ≤ 1000 → Ev (fun k => impl_OidBytes.l0 k acc (l.drop 2) ((l.drop 2).length : Int) (i : Int)) (acc ++ (((l.drop 2).drop i).map sev).flatten, true) := by
      intro d
      induction d with
      | zero =>
        intro i acc hi ha
        rw [List.drop_of_length_le (i := i) (by omega)]
        refine Ev.step (fun k => impl_OidBytes.l0.eq_2 _ _ _ _ _) (ev_neg (by omega) ?_)
        simpa using Ev.now _
      | succ d ih =>
        intro i acc hi ha
        have hx := h4 _ (rd_mem (xs := l.drop 2) (i := (i : Int)) (by omega) (by omega))
        have hs := sev_length (rd (l.drop 2) (i : Int))
        have := ih (i + 1) (acc ++ sev (rd (l.drop 2) (i : Int))) (by omega) (by simp; omega)
        rw [drop_cons (l.drop 2) i (by omega)]
        refine Ev.step (fun k => impl_OidBytes.l0.eq_2 _ _ _ _ _) (ev_pos (by omega) (ev_pos (by omega) (ev_pos (by omega) (Ev.bind (seven_impl _ (by omega) (by omega)) (ev_pos (by omega) ?_)))))
        rw [w64 (by omega) (by omega)]
        rw [List.map_cons, List.flatten_cons, ← List.append_assoc]
        exact this
    have hs := sev_length (40 * rd l 0 + rd l 1)
    exact key (l.drop 2).length 0 (sev (40 * rd l 0 + rd l 1)) (by omega) (by simp; omega)
theorem spec_oid (l : List Int) (hl : l.length ≤ 1048576) : Ev (fun k => spec_OidBytes.f k l) (if oidB l = true then (oidL l, true) else ([], false)) := by
  have no : Ev (fun k => spec_OidBytes.j0 k l [] true) ([], false) := Ev.step (fun k => spec_OidBytes.j0.eq_2 _ _ _ _) (ev_pos rfl (Ev.now _))
  refine Ev.bind (Ev.now _) (ev_bindc (l1In_eq _ _ _) ?_)
  change Ev (fun k => if inB 2 12 (l.length : Int) = true then _ else _) _
  unfold oidB
  cases h1 : inB 2 12 (l.length : Int) with
  | false => exact ev_neg (by simp) no
  | true =>
    have h1' := of_decide_eq_true h1
    refine ev_pos rfl (ev_pos (by omega) (ev_bindc (l1In_eq _ _ _) ?_))
    change Ev (fun k => if inB 0 2 (rd l 0) = true then _ else _) _
    cases h2 : inB 0 2 (rd l 0) with
    | false => exact ev_neg (by simp) no
    | true =>
      have h2' := of_decide_eq_true h2
      refine ev_pos rfl (ev_pos (by omega) (ev_bindc (l1In_eq _ _ _) ?_))
      change Ev (fun k => if inB 0 1000000 (rd l 1) = true then _ else _) _
      have body : ∀ hz : 0 ≤ rd l 1 ∧ rd l 1 ≤ 1000000, Ev (fun k => spec_OidBytes.j0 k l [] false) (if (l.drop 2).all (inB 0 1000000000) = true then (oidL l, true) else ([], false)) := by
        intro hz
        have e : wrap64 (wrap64 (40 * rd l 0) + rd l 1) = 40 * rd l 0 + rd l 1 := by unfold wrap64; omega
        refine Ev.step (fun k => spec_OidBytes.j0.eq_2 _ _ _ _) (ev_neg (by simp) (ev_pos (by omega) (ev_pos (by omega) ?_)))
        rw [e]
        refine Ev.bind (seven_spec _ (by omega) (by omega)) ?_
        clear e
        have key : ∀ (d i : Nat) (acc : List Int), i + d = l.length → acc.length + 9 * d ≤ 1000 → Ev (fun k => spec_OidBytes.l0 k l [] acc (i : Int)) (if (l.drop i).all (inB 0 1000000000) = true then (acc ++ ((l.drop i).map sev).flatten, true) else ([], false)) := by
          intro d
          induction d with
          | zero =>
            intro i acc hi ha
            rw [List.drop_of_length_le (i := i) (by omega)]
            refine Ev.step (fun k => spec_OidBytes.l0.eq_2 _ _ _ _ _) (ev_neg (by omega) ?_)
            simpa using Ev.now _
          | succ d ih =>
            intro i acc hi ha
            have hs := sev_length (rd l (i : Int))
            have := ih (i + 1) (acc ++ sev (rd l (i : Int))) (by omega) (by simp; omega)
            rw [drop_cons l i (by omega)]
            refine Ev.step (fun k => spec_OidBytes.l0.eq_2 _ _ _ _ _) (ev_pos (by omega) (ev_pos (by omega) (ev_bindc (l1In_eq _ _ _) ?_)))
            change Ev (fun k => if inB 0 1000000000 (rd l (i : Int)) = true then _ else _) _
            cases c : inB 0 1000000000 (rd l (i : Int)) with
            | false =>
              rw [if_neg (by simp [c])]
              exact ev_neg (by simp) (Ev.now _)
            | true =>
              have c' := of_decide_eq_true c
              refine ev_pos rfl (Ev.bind (seven_spec _ (by omega) (by omega)) (ev_pos (by omega) ?_))
              rw [w64 (by omega) (by omega)]
              rw [List.map_cons, List.flatten_cons, ← List.append_assoc, List.all_cons, c, Bool.true_and]
              exact this
        have hs := sev_length (40 * rd l 0 + rd l 1)
        exact key (l.length - 2) 2 (sev (40 * rd l 0 + rd l 1)) (by omega) (by omega)
      by_cases c : rd l 0 = 2
      · rw [if_pos c]
        cases h3 : inB 0 1000000 (rd l 1) with
        | false => exact ev_neg (by simp) no
        | true =>
          exact ev_pos rfl (ev_neg (by omega) (body (of_decide_eq_true h3)))
      · rw [if_neg c]
        cases h3 : inB 0 1000000 (rd l 1) with
        | false =>
          have h3' := of_decide_eq_false h3
          have h4 : inB 0 39 (rd l 1) = false := decide_eq_false (by omega)
          rw [h4]
          exact ev_neg (by simp) no
        | true =>
          have h3' := of_decide_eq_true h3
          refine ev_pos rfl (ev_pos (by omega) ?_)
          by_cases c4 : rd l 1 > 39
          · have h4 : inB 0 39 (rd l 1) = false := decide_eq_false (by omega)
            rw [h4, decide_eq_true c4]
            exact no
          · have h4 : inB 0 39 (rd l 1) = true := decide_eq_true (by omega)
            rw [h4, decide_eq_false c4]
            exact body h3'
theorem FnExactOidBytes : laws_FnExactOidBytes.Pure := by
  intro l _ _ _
  by_cases c0 : (l.length : Int) > 1048576
  · exact ev_k (ev_pos c0 (Ev.now _))
  have h := toIntS_ev l (by omega)
  have hs := spec_oid l (by omega)
  have hi := impl_oid l (by omega)
  obtain ⟨R, rfl⟩ : ∃ R, R = (if oidB l = true then (oidL l, true) else ([], false)) := ⟨_, rfl⟩
  have hR : (if oidB l = true then (oidL l, true) else ([], false)).1.length ≤ 1000 := by
    cases c : oidB l with
    | false => simp
    | true =>
      obtain ⟨h1, _⟩ := oidB_parts c
      have h2 := sev_length (40 * rd l 0 + rd l 1)
      have h3 := flat_length (l.drop 2)
      simp only [oidL, if_true, List.length_append, List.length_drop] at h3 ⊢
      omega
  generalize (if oidB l = true then (oidL l, true) else (([] : List Int), false)) = R at hs hi hR
  obtain ⟨r, b⟩ := R
  replace hR : r.length ≤ 1000 := hR
  obtain ⟨y, hy, hm⟩ := markInt_ev (L := laws_markIntS.l0) (fun _ _ _ _ => rfl) l 1 (by omega) (by omega) (by omega)
  have he := eqByteS_ev r (by omega)
  have hn : ∀ n : Nat, ¬ (1 + (n : Int)) < 0 := fun n => by omega
  refine ev_k (ev_neg c0 (Ev.bind h (Ev.bind hs (Ev.bind h (Ev.bind hi (Ev.bind he (ev_pos rfl ?_)))))))
  refine Ev.step (fun k => laws_FnExactOidBytes.j0.eq_2 _ _ _ _ _ _ _ _) (ev_neg (by simp) (Ev.bind h (Ev.bind (eqIntS_ev l (by omega)) (ev_pos rfl (Ev.bind hm (ev_neg (hn _) (Ev.bind he (ev_pos rfl ?_))))))))
  refine Ev.step (fun k => laws_FnExactOidBytes.j1.eq_2 _ _ _ _ _ _) (ev_neg (by simp) (Ev.bind (markB_ev r (by omega)) (Ev.bind (heldB_ev r.length (by omega)) (ev_neg (hn _) (ev_pos rfl (Ev.bind h (Ev.bind hi (Ev.bind he (ev_pos rfl ?_)))))))))
  exact Ev.step (fun k => laws_FnExactOidBytes.j2.eq_2 _ _ _ _) (ev_neg (by simp) (Ev.bind (heldB_ev r.length (by omega)) (ev_neg (hn _) (ev_pos rfl (Ev.now _)))))

end Go.Proofs.Ythhomopijhopfaa.Pure
