/- The program's Reduce returns what the reference's returns, for all arguments that the law lets in (at most 2^20 bytes). -/
import Derived.Test.YtdnijphfamnnoaaPFnExactReducex1
import Derived.Test.YtdnijphfamnnoaaBase
namespace Go.Proofs.Ytdnijphfamnnoaa.Pure
open Go.RowKit Go.Proofs.Ytdnijphfamnnoaa.PFnExactReduce Go.Proofs.YtdnijphfamnnoaaW.PrintWords Go.Proofs.YtdnijphfamnnoaaW.PrintLast Go.Proofs.Ytdnijphfamnnoaa.Base
set_option linter.unusedVariables false

theorem l1In_eq (x a b : Int) : spec_l1In.f x a b = some (decide (a ≤ x ∧ x ≤ b)) := by
  unfold spec_l1In.f
  by_cases h : x ≥ a
  · rw [if_pos h]; simp [show a ≤ x from h]
  · rw [if_neg h]; simp [show ¬ a ≤ x from h]
theorem within_eq (x a b : Int) : impl_within.f x a b = some (decide (a ≤ x ∧ x ≤ b)) := l1In_eq x a b
theorem toByteS_ev (l : List Int) (hl : l.length ≤ 1048576) : Ev (fun k => laws_toByteS.f k l) l := by
  refine ev_pos (by omega) (ev_pos (by omega) ?_)
  rw [show ((l.length : Int) : Int).toNat = l.length by omega]
  exact copy_ev (L := laws_toByteS.l0) (fun _ _ _ _ => rfl) l (by omega)
theorem eqByteS_ev (l : List Int) (hl : l.length ≤ 1048576) : Ev (fun k => laws_eqByteS.f k l l) true :=
  ev_pos rfl (by simpa using eq_ev (L := laws_eqByteS.l0) (fun _ _ _ _ => rfl) l l (by omega) rfl)
def val (l : List Int) : Int := l.foldl (fun a b => a * 256 + b) 0
theorem val_snoc (l : List Int) (b : Int) : val (l ++ [b]) = val l * 256 + b := by simp [val]
theorem take_snoc (l : List Int) (i : Nat) (h : i < l.length) : l.take (i + 1) = l.take i ++ [rd l (i : Int)] := by
  rw [List.take_succ_eq_append_getElem h]; simp [rd, h]
theorem val_take (l : List Int) (i : Nat) (h : i < l.length) : val (l.take (i + 1)) = val (l.take i) * 256 + rd l (i : Int) := by rw [take_snoc l i h, val_snoc]
theorem val_lt (l : List Int) (hb : ∀ x ∈ l, 0 ≤ x ∧ x ≤ 255) : ∀ i, i ≤ l.length → 0 ≤ val (l.take i) ∧ val (l.take i) < 256 ^ i := by
  intro i
  induction i with
  | zero => intro _; simp [val]
  | succ i ih =>
    intro h
    have := ih (by omega)
    have hr := hb _ (rd_mem (xs := l) (i := (i : Int)) (by omega) (by omega))
    rw [val_take l i (by omega), Int.pow_succ]
    omega
theorem wrap_u64_id (n : Int) (h0 : 0 ≤ n) (h1 : n < 2 ^ 64) : IntKind.u64.wrap n = n := by
  simp [IntKind.wrap, IntKind.bits, IntKind.signed]; omega
theorem mod_step (v n b : Int) : (v % n * 256 + b) % n = (v * 256 + b) % n := by
  rw [Int.add_emod, Int.mul_emod (v % n), Int.emod_emod, ← Int.mul_emod, ← Int.add_emod]
def red (l : List Int) (n : Int) : Int := if l.length = 8 ∧ 2 ≤ n ∧ n ≤ 2147483648 then val l % n else -1
theorem spec_reduce (l : List Int) (n : Int) (hb : ∀ x ∈ l, 0 ≤ x ∧ x ≤ 255) : Ev (fun k => spec_Reduce.f k l n) (red l n) := by
  have no : Ev (fun k => spec_Reduce.j0 k l n true) (-1) := Ev.step (fun k => spec_Reduce.j0.eq_2 _ _ _ _) (ev_pos rfl (Ev.now _))
  unfold red
  by_cases h1 : (l.length : Int) = 8
  · refine ev_pos h1 (ev_bindc (l1In_eq _ _ _) ?_)
    by_cases h2 : 2 ≤ n ∧ n ≤ 2147483648
    · rw [if_pos ⟨by omega, h2⟩, decide_eq_true h2]
      refine Ev.step (fun k => spec_Reduce.j0.eq_2 _ _ _ _) (ev_neg (by simp) ?_)
      have key : ∀ d i : Nat, i + d = 8 → Ev (fun k => spec_Reduce.l0 k l n (val (l.take i) % n) (i : Int)) (val l % n) := by
        intro d
        induction d with
        | zero =>
          intro i hi
          refine Ev.step (fun k => spec_Reduce.l0.eq_2 _ _ _ _ _) (ev_neg (by omega) ?_)
          rw [List.take_of_length_le (by omega)]; exact Ev.now _
        | succ d ih =>
          intro i hi
          have hr := hb _ (rd_mem (xs := l) (i := (i : Int)) (by omega) (by omega))
          have m0 := Int.emod_nonneg (val (l.take i)) (show n ≠ 0 by omega)
          have m1 := Int.emod_lt_of_pos (val (l.take i)) (show 0 < n by omega)
          refine Ev.step (fun k => spec_Reduce.l0.eq_2 _ _ _ _ _) (ev_pos (by omega) (ev_pos (by omega) (ev_pos (by omega) (ev_neg (by omega) ?_))))
          rw [w64 (x := val (l.take i) % n * 256) (by omega) (by omega), w64 (x := rd l (i : Int)) (by omega) (by omega), w64 (x := val (l.take i) % n * 256 + rd l (i : Int)) (by omega) (by omega), w64 (by omega) (by omega),
            Int.tmod_eq_emod_of_nonneg (by omega), mod_step, ← val_take l i (by omega)]
          exact ih (i + 1) (by omega)
      have := key 8 0 (by omega)
      simpa [val] using this
    · rw [if_neg (fun h => h2 h.2), decide_eq_false h2]; exact no
  · rw [if_neg (fun h => h1 (by omega))]; exact ev_neg h1 no
theorem impl_red (l : List Int) (n : Int) (hb : ∀ x ∈ l, 0 ≤ x ∧ x ≤ 255) (hl : l.length = 8) (h0 : 2 ≤ n) (h1 : n ≤ 2147483648) : Ev (fun k => impl_reduce.f k l n) (val l % n) := by
  have key : ∀ d i : Nat, i + d = 8 → Ev (fun k => impl_reduce.l0 k n (val (l.take i)) l (l.length : Int) (i : Int)) (val l % n) := by
    intro d
    induction d with
    | zero =>
      intro i hi
      have hv := val_lt l hb i (by omega)
      have hn := wrap_u64_id n (by omega) (by omega)
      have m0 := Int.emod_nonneg (val l) (show n ≠ 0 by omega)
      have m1 := Int.emod_lt_of_pos (val l) (show 0 < n by omega)
      refine Ev.step (fun k => impl_reduce.l0.eq_2 _ _ _ _ _ _) (ev_neg (by omega) ?_)
      rw [hn]
      refine ev_neg (by omega) ?_
      rw [Int.tmod_eq_emod_of_nonneg hv.1, List.take_of_length_le (by omega), w64 (by omega) (by omega)]; exact Ev.now _
    | succ d ih =>
      intro i hi
      have hr := hb _ (rd_mem (xs := l) (i := (i : Int)) (by omega) (by omega))
      have hv := val_lt l hb i (by omega)
      have hp : (256 : Int) ^ i ≤ 256 ^ 7 := pow256_le (show i ≤ 7 by omega)
      rw [show (256 : Int) ^ 7 = 72057594037927936 by decide] at hp
      refine Ev.step (fun k => impl_reduce.l0.eq_2 _ _ _ _ _ _) (ev_pos (by omega) (ev_pos (by omega) (ev_pos (by omega) ?_)))
      rw [wrap_u64_id (val (l.take i) * 256) (by omega) (by omega), wrap_u64_id (rd l (i : Int)) (by omega) (by omega), w64 (by omega) (by omega),
        bits_join .u64 64 (by decide) wrap_u64_id 8 _ _ (by omega) (by omega) (by omega) (by omega) (by omega) (by omega), ← val_take l i (by omega)]
      exact ih (i + 1) (by omega)
  have := key 8 0 (by omega)
  exact this
theorem impl_Reduce_ev (l : List Int) (n : Int) (hb : ∀ x ∈ l, 0 ≤ x ∧ x ≤ 255) : Ev (fun k => impl_Reduce.f k l n) (red l n) := by
  unfold red
  by_cases h1 : (l.length : Int) = 8
  · refine ev_pos h1 (ev_bindc (within_eq _ _ _) ?_)
    by_cases h2 : 2 ≤ n ∧ n ≤ 2147483648
    · rw [if_pos ⟨by omega, h2⟩, decide_eq_true h2]
      exact ev_pos rfl (Ev.bind (impl_red l n hb (by omega) h2.1 h2.2) (Ev.now _))
    · rw [if_neg (fun h => h2 h.2), decide_eq_false h2]; exact ev_neg (by simp) (Ev.now _)
  · rw [if_neg (fun h => h1 (by omega))]; exact ev_neg h1 (Ev.now _)
theorem FnExactReduce : laws_FnExactReduce.Pure := by
  intro l n _ _ hw _
  by_cases c0 : (l.length : Int) > 1048576
  · exact ev_k (ev_pos c0 (Ev.now _))
  have hb : ∀ x ∈ l, 0 ≤ x ∧ x ≤ 255 := fun x hx => wf8 (hw x hx)
  have h1 := toByteS_ev l (by omega)
  exact ev_k (ev_neg c0 (Ev.bind h1 (Ev.bind (spec_reduce l n hb) (Ev.bind h1 (Ev.bind (impl_Reduce_ev l n hb) (ev_pos rfl (Ev.bind h1 (Ev.bind (eqByteS_ev l (by omega)) (ev_pos rfl (Ev.now _)))))))))) 

end Go.Proofs.Ytdnijphfamnnoaa.Pure
