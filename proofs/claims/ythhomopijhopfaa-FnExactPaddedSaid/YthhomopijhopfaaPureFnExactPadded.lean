/- The program's Padded returns what the reference's returns, for all arguments that the law lets in. -/
import Derived.Test.YthhomopijhopfaaGFnExactPaddedx2
import Derived.Test.YthhomopijhopfaaBase
namespace Go.Proofs.Ythhomopijhopfaa.Pure
open Go.RowKit Go.Proofs.Ythhomopijhopfaa.GFnExactPadded Go.Proofs.YthhomopijhopfaaW.PrintWords Go.Proofs.YthhomopijhopfaaW.PrintLast Go.Proofs.Ythhomopijhopfaa.Base
set_option linter.unusedVariables false
set_option linter.unusedSimpArgs false

theorem eqByteS_ev (l : List Int) (hl : l.length ≤ 1048576) : Ev (fun k => laws_eqByteS.f k l l) true :=
  ev_pos rfl (by simpa using eq_ev (L := laws_eqByteS.l0) (fun _ _ _ _ => rfl) l l (by omega) rfl)
theorem markB_ev (r : List Int) (hl : r.length ≤ 1048576) : Ev (fun k => laws_markByteS.f k r 1) (1 + (r.length : Int), marked 1 r.length) := mark_ev (L := laws_markByteS.l0) (fun _ _ _ _ => rfl) r 1 (by omega) (by omega) (by omega)
theorem heldB_ev (n : Nat) (hl : n ≤ 1048576) : Ev (fun k => laws_heldByteS.f k (marked 1 n) 1) (1 + (n : Int)) := held_ev (L := laws_heldByteS.l0) (fun _ _ _ _ => rfl) n 1 (by omega) (by omega) (by omega)
theorem l1In_eq (x a b : Int) : spec_l1In.f x a b = some (decide (a ≤ x ∧ x ≤ b)) := by
  unfold spec_l1In.f
  by_cases h : x ≥ a
  · rw [if_pos h]; simp [show a ≤ x from h]
  · rw [if_neg h]; simp [show ¬ a ≤ x from h]
theorem within_eq (x a b : Int) : impl_within.f x a b = some (decide (a ≤ x ∧ x ≤ b)) := l1In_eq x a b
theorem w64 {x : Int} (h : -9223372036854775808 ≤ x) (h2 : x ≤ 9223372036854775807) : wrap64 x = x := Base.w64 h h2
theorem toByteS_ev (l : List Int) (hl : l.length ≤ 1048576) : Ev (fun k => laws_toByteS.f k l) l := by
  refine ev_pos (by omega) (ev_pos (by omega) ?_)
  rw [show ((l.length : Int) : Int).toNat = l.length by omega]
  exact copy_ev (L := laws_toByteS.l0) (fun _ _ _ _ => rfl) l (by omega)
def pad (l : List Int) (n : Nat) : List Int := (([0, 1] ++ List.replicate n 255) ++ [0, 77, 1, 8]) ++ l
def res (l : List Int) (k : Int) : List Int × Bool := if l.length = 8 ∧ 23 ≤ k ∧ k ≤ 64 then (pad l (k - 14).toNat, true) else ([], false)
theorem impl_ev (l : List Int) (k : Int) : impl_Padded.f l k = some (res l k) := by
  unfold impl_Padded.f res
  by_cases c : (l.length : Int) = 8
  · rw [if_pos c, within_eq]
    simp only [Option.bind_some]
    by_cases d : 23 ≤ k ∧ k ≤ 64
    · rw [decide_eq_true d, if_pos rfl, if_pos ⟨by omega, d⟩]
      unfold Hand.impl_padded.f Hand.bytes_Repeat.f
      simp only [Option.bind_some]
      rw [w64 (by omega) (by omega), if_pos trivial, if_pos (by omega), if_pos (by omega)]
      simp only [Option.bind_some]
      rw [if_pos (by simp; omega), if_pos (by simp; omega), if_pos (by simp; omega)]
      rfl
    · rw [decide_eq_false d, if_neg (by simp), if_neg (by omega)]
  · rw [if_neg c, if_neg (by omega)]
theorem spec_ev (l : List Int) (k : Int) : Ev (fun q => spec_Padded.f q l k) (res l k) := by
  unfold res
  have no : Ev (fun q => spec_Padded.j0 q l k true) ([], false) := Ev.step (fun _ => spec_Padded.j0.eq_2 _ _ _ _) (ev_pos rfl (Ev.now _))
  by_cases c : (l.length : Int) = 8
  · refine ev_pos c (ev_bindc (l1In_eq _ _ _) ?_)
    by_cases d : 23 ≤ k ∧ k ≤ 64
    · rw [decide_eq_true d, if_pos ⟨by omega, d⟩]
      have H : ∀ (m i : Nat), i + m = (k - 14).toNat → Ev (fun q => spec_Padded.l0 q l k ([0, 1] ++ List.replicate i 255)) (pad l (k - 14).toNat, true) := by
        intro m
        induction m with
        | zero =>
          intro i hi
          obtain rfl : i = (k - 14).toNat := by omega
          refine Ev.step (fun _ => spec_Padded.l0.eq_2 _ _ _ _) (ev_neg (by rw [w64 (by omega) (by omega)]; simp; omega) (ev_bindc rfl (ev_pos (by simp; omega) (ev_bindc rfl (ev_pos (by simp; omega) (Ev.now _))))))
        | succ m ih =>
          intro i hi
          refine Ev.step (fun _ => spec_Padded.l0.eq_2 _ _ _ _) (ev_pos (by rw [w64 (by omega) (by omega)]; simp; omega) (ev_pos (by simp; omega) ?_))
          rw [List.append_assoc, show List.replicate i (255 : Int) ++ [255] = List.replicate (i + 1) 255 from List.replicate_succ'.symm]
          exact ih (i + 1) (by omega)
      exact Ev.step (fun _ => spec_Padded.j0.eq_2 _ _ _ _) (ev_neg (by simp) (H (k - 14).toNat 0 (by omega)))
    · rw [decide_eq_false d, if_neg (by omega)]
      exact no
  · rw [if_neg (by omega)]
    exact ev_neg c no
theorem res_len (l : List Int) (k : Int) (hl : l.length ≤ 1048576) : (res l k).1.length ≤ 100 := by
  unfold res
  split
  · simp [pad]
    omega
  · simp
theorem FnExactPadded : laws_FnExactPadded.Pure := by
  intro l n _ _ _ _
  by_cases c0 : (l.length : Int) > 1048576
  · exact ev_k (ev_pos c0 (Ev.now _))
  have hl : l.length ≤ 1048576 := by omega
  have ht := toByteS_ev l hl
  have hs := spec_ev l n
  have hi := impl_ev l n
  have hr := res_len l n hl
  obtain ⟨⟨r, b⟩, hz⟩ : ∃ z, z = res l n := ⟨_, rfl⟩
  rw [← hz] at hs hi hr
  have hm := markB_ev r (by show r.length ≤ _; have : r.length ≤ 100 := hr; omega)
  have hm0 := markB_ev l hl
  have hh := heldB_ev r.length (by have : r.length ≤ 100 := hr; omega)
  have he := eqByteS_ev r (by have : r.length ≤ 100 := hr; omega)
  have hel := eqByteS_ev l hl
  have j2 : Ev (fun k => laws_FnExactPadded.j2 k (marked 1 r.length) (1 + (r.length : Int)) false) true :=
    Ev.step (fun _ => laws_FnExactPadded.j2.eq_2 _ _ _ _) (ev_neg (by simp) (Ev.bind hh (ev_neg (by omega) (ev_pos rfl (Ev.now _)))))
  have j1 : Ev (fun k => laws_FnExactPadded.j1 k l n r b r false) true :=
    Ev.step (fun _ => laws_FnExactPadded.j1.eq_2 _ _ _ _ _ _ _) (ev_neg (by simp) (Ev.bind hm (Ev.bind hh (ev_neg (by omega) (ev_pos rfl (Ev.bind ht (ev_bindc hi (Ev.bind he (ev_pos rfl (by rw [bne_self_eq_false]; exact j2))))))))))
  refine ev_k (ev_neg c0 (Ev.bind ht (Ev.bind hs (Ev.bind ht (ev_bindc hi (Ev.bind he (ev_pos rfl ?_)))))))
  rw [bne_self_eq_false]
  exact Ev.step (fun _ => laws_FnExactPadded.j0.eq_2 _ _ _ _ _ _ _ _ _) (ev_neg (by simp) (Ev.bind ht (Ev.bind hel (ev_pos rfl (Ev.bind hm0 (ev_neg (show ¬ (1 + (l.length : Int)) < 0 by omega) (Ev.bind he (ev_pos rfl (by rw [bne_self_eq_false]; exact j1)))))))))

end Go.Proofs.Ythhomopijhopfaa.Pure
