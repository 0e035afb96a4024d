/- The program's ReadDer returns what the reference's returns, for all arguments that the law lets in. -/
import Derived.Test.YtmeobalddjembaaGFnExactReadDerx2
import Derived.Test.YtmeobalddjembaaBase
import Derived.Test.YtmeobalddjembaaGFnExactReadDerHand
namespace Go.Proofs.Ytmeobalddjembaa.Pure
open Go.RowKit Go.Proofs.Ytmeobalddjembaa.GFnExactReadDer Go.Proofs.YtmeobalddjembaaW.PrintWords Go.Proofs.YtmeobalddjembaaW.PrintLast Go.Proofs.Ytmeobalddjembaa.Base
set_option linter.unusedVariables false
set_option linter.unusedSimpArgs false

open Go.Proofs.Ytmeobalddjembaa.GFnExactReadDer.Hand
/-! ### copies and comparison of bytes and items -/
theorem rd52 {l : List S52} {i : Nat} (h : i < l.length) : rd_T52 l (i : Int) = l[i] := by simp [rd_T52, h]
theorem toByteS_ev (l : List Int) (hl : l.length ≤ 1048576) : Ev (fun k => laws_toByteS.f k l) l := by
  refine ev_pos (by omega) (ev_pos (by omega) ?_)
  rw [show ((l.length : Int) : Int).toNat = l.length by omega]
  exact copy_ev (L := laws_toByteS.l0) (fun _ _ _ _ => rfl) l (by omega)
theorem eqByteS_ev (l : List Int) (hl : l.length ≤ 1048577) : Ev (fun k => laws_eqByteS.f k l l) true :=
  ev_pos rfl (by simpa using eq_ev (L := laws_eqByteS.l0) (fun _ _ _ _ => rfl) l l (by omega) rfl)
theorem eqItemS_ev (l : List S52) (hl : l.length ≤ 1048577) (hb : ∀ x ∈ l, x.f1.length ≤ 1048577) : Ev (fun k => laws_eqItemS.f k l l) true := by
  refine ev_pos rfl ?_
  have key : ∀ (d i : Nat), i + d = l.length → Ev (fun k => laws_eqItemS.l0 k l l (i : Int)) true := by
    intro d
    induction d with
    | zero =>
      intro i hi
      exact Ev.step (fun k => laws_eqItemS.l0.eq_2 _ _ _ _) (ev_neg (by omega) (Ev.now _))
    | succ d ih =>
      intro i hi
      have hbi := hb _ (List.getElem_mem (show i < l.length by omega))
      refine Ev.step (fun k => laws_eqItemS.l0.eq_2 _ _ _ _) (ev_pos (by omega) (ev_pos (by omega) (ev_pos (by omega) ?_)))
      rw [rd52 (by omega)]
      refine Ev.bind (a := true) (ev_pos rfl (Ev.bind (eqByteS_ev _ hbi) (ev_pos rfl (ev_pos rfl (Ev.now _))))) (ev_pos rfl ?_)
      rw [w64 (x := (i : Int) + 1) (by omega) (by omega)]
      exact ih (i + 1) (by omega)
  exact key l.length 0 (by omega)
/-! ### what has been marked is held; an item list's sums -/
theorem tot_sum (ms : List Nat) (B : Nat) (h : ∀ m ∈ ms, m ≤ B) : ∀ i, i ≤ ms.length → tot ms i ≤ i * (B + 2)
  | 0, _ => by simp [tot]
  | i + 1, hi => by
    have := tot_sum ms B h i (by omega)
    have h2 : ms.getD i 0 ≤ B := by
      rw [List.getD_eq_getElem?_getD, List.getElem?_eq_getElem (by omega)]
      exact h _ (List.getElem_mem _)
    simp only [tot, Nat.succ_mul]
    omega
theorem marks_marked (m : Int) (n : Nat) : marks m n = marked m n := by
  apply List.ext_getElem?
  intro j
  by_cases h : j < n
  · rw [marks_at m n j h, marked_get n m j h]
  · rw [List.getElem?_eq_none (by rw [marks_length]; omega), List.getElem?_eq_none (by rw [marked_length]; omega)]
theorem heldItems_ev (ms : List Nat) (hl : ms.length ≤ 1048576) (ht : tot ms ms.length ≤ 1000000000000) : Ev (fun k => laws_heldItemS.f k (mkI 1 ms) 1) ((1 : Int) + ((tot ms ms.length : Nat) : Int)) := by
  have key : ∀ (d i : Nat), i + d = ms.length → Ev (fun k => laws_heldItemS.l0 k (mkI 1 ms) (1 + ((tot ms i : Nat) : Int)) (i : Int)) ((1 : Int) + ((tot ms ms.length : Nat) : Int)) := by
    intro d
    induction d with
    | zero =>
      intro i hi
      obtain rfl : i = ms.length := by omega
      exact Ev.step (fun k => laws_heldItemS.l0.eq_2 _ _ _ _) (ev_neg (by rw [mkI_length]; omega) (Ev.now _))
    | succ d ih =>
      intro i hi
      have h1 := tot_le ms (i + 1) ms.length (by omega)
      have h2 : tot ms (i + 1) = tot ms i + (ms.getD i 0 + 2) := rfl
      have hat : rd_T52 (mkI 1 ms) (i : Int) = mkAt 1 ms i := by
        unfold rd_T52 mkI
        rw [Int.toNat_natCast, List.getD_eq_getElem?_getD]
        simp [show i < ms.length by omega]
      refine Ev.step (fun k => laws_heldItemS.l0.eq_2 _ _ _ _) (ev_pos (by rw [mkI_length]; omega) (ev_pos (by omega) ?_))
      rw [hat]
      refine ev_pos rfl ?_
      rw [w64 (x := 1 + ((tot ms i : Nat) : Int) + 1) (by omega) (by omega)]
      have hb : Ev (fun k => laws_heldByteS.f k (mkAt 1 ms i).f1 (1 + ((tot ms i : Nat) : Int) + 1)) (1 + ((tot ms i : Nat) : Int) + 1 + ((ms.getD i 0 : Nat) : Int)) := by
        show Ev (fun k => laws_heldByteS.f k (marks _ _) _) _
        rw [marks_marked]
        exact held_ev (L := laws_heldByteS.l0) (fun _ _ _ _ => rfl) (ms.getD i 0) (1 + ((tot ms i : Nat) : Int) + 1) (by omega) (by omega) (by omega)
      refine Ev.bind hb (ev_neg (by omega) (ev_pos rfl ?_))
      rw [w64 (x := 1 + ((tot ms i : Nat) : Int) + 1 + ((ms.getD i 0 : Nat) : Int) + 1) (by omega) (by omega), w64 (x := (i : Int) + 1) (by omega) (by omega)]
      have := ih (i + 1) (by omega)
      rw [h2] at this
      have e : (1 : Int) + ((tot ms i : Nat) : Int) + 1 + ((ms.getD i 0 : Nat) : Int) + 1 = 1 + ((tot ms i + (ms.getD i 0 + 2) : Nat) : Int) := by omega
      rw [e]
      exact this
  have := key ms.length 0 (by omega)
  exact this
theorem lens_length (l : List S52) : (lens l).length = l.length := by simp [lens]
theorem lens_tot (l : List S52) (hl : l.length ≤ 1048576) (hb : ∀ x ∈ l, x.f1.length ≤ 1048576) : tot (lens l) l.length ≤ 1000000000000000 := by
  have b := tot_sum (lens l) 1048576 (fun m hm => by
    simp only [lens, List.mem_map] at hm
    obtain ⟨x, hx, rfl⟩ := hm
    exact hb x hx) l.length (by rw [lens_length]; omega)
  have d : l.length * (1048576 + 2) ≤ 1048576 * (1048576 + 2) := Nat.mul_le_mul_right _ hl
  omega
theorem lens_tot300 (l : List S52) (hl : l.length ≤ 300) (hb : ∀ x ∈ l, x.f1.length ≤ 1048576) : tot (lens l) l.length ≤ 1000000000000 := by
  have b := tot_sum (lens l) 1048576 (fun m hm => by
    simp only [lens, List.mem_map] at hm
    obtain ⟨x, hx, rfl⟩ := hm
    exact hb x hx) l.length (by rw [lens_length]; omega)
  have d : l.length * (1048576 + 2) ≤ 300 * (1048576 + 2) := Nat.mul_le_mul_right _ hl
  omega
theorem rdKids_small {f : Nat → Except (Int × Int) (List S52 × Nat)} {stop B : Nat} (hf : ∀ i l nx, f i = .ok (l, nx) → ∀ x ∈ l, x.f1.length ≤ B) : ∀ (n next : Nat) (l : List S52) (c : Nat), rdKids f stop n next = .ok (l, c) → ∀ x ∈ l, x.f1.length ≤ B
  | 0, next, l, c, h => by
    injection h with h
    injection h with h1 h2
    subst h1
    simp
  | n + 1, next, l, c, h => by
    unfold rdKids at h
    by_cases c1 : next < stop
    · rw [if_pos c1] at h
      cases hx : f next with
      | error x => rw [hx] at h; cases h
      | ok y =>
        obtain ⟨l1, nx⟩ := y
        rw [hx] at h
        simp only at h
        cases hy : rdKids f stop n nx with
        | error x => rw [hy] at h; cases h
        | ok z =>
          obtain ⟨l2, c2⟩ := z
          rw [hy] at h
          injection h with h
          injection h with h3 h4
          subst h3
          intro x hx2
          rcases List.mem_append.1 hx2 with h5 | h5
          · exact hf _ _ _ hx x h5
          · exact rdKids_small hf n nx l2 c2 hy x h5
    · rw [if_neg c1] at h
      injection h with h
      injection h with h1 h2
      subst h1
      simp
theorem rdItem_small (b : List Int) : ∀ (g e i : Nat) (l : List S52) (nx : Nat), rdItem b g e i = .ok (l, nx) → ∀ x ∈ l, x.f1.length ≤ b.length
  | 0, e, i, l, nx, h => by
    unfold rdItem at h
    cases hh : head b i e 0 with
    | error x => rw [hh] at h; cases h
    | ok y => rw [hh] at h; cases h
  | g + 1, e, i, l, nx, h => by
    unfold rdItem at h
    cases hh : head b i e (g + 1) with
    | error x => rw [hh] at h; cases h
    | ok y =>
      obtain ⟨tag, f, s⟩ := y
      rw [hh] at h
      simp only at h
      by_cases c : madeT tag = true
      · rw [if_pos c] at h
        cases hk : rdKids (rdItem b g (f + s)) (f + s) s f with
        | error x => rw [hk] at h; cases h
        | ok z =>
          obtain ⟨l2, c2⟩ := z
          rw [hk] at h
          injection h with h
          injection h with h3 h4
          subst h3
          intro x hx
          rcases List.mem_cons.1 hx with e1 | e1
          · subst e1
            simp
          · exact rdKids_small (fun i l nx hx => rdItem_small b g (f + s) i l nx hx) s f l2 c2 hk x e1
      · rw [if_neg c] at h
        injection h with h
        injection h with h3 h4
        subst h3
        intro x hx
        rw [List.mem_singleton.1 hx]
        simp only [List.length_take, List.length_drop]
        omega
theorem readDer_small (b : List Int) : (readDer b).1.length ≤ 300 ∧ ∀ x ∈ (readDer b).1, x.f1.length ≤ 4000 := by
  unfold readDer
  by_cases c : b.length > 4000
  · rw [if_pos c]
    simp
  · rw [if_neg c]
    cases h : rdItem b 13 b.length 0 with
    | error x => simp
    | ok y =>
      obtain ⟨l, nx⟩ := y
      have hs := rdItem_small b 13 b.length 0 l nx h
      by_cases c2 : l.length > 300
      · simp [c2]
      · by_cases c3 : nx < b.length
        · simp [c2, c3]
        · simp only [c2, c3, if_false]
          exact ⟨by omega, fun x hx => by have := hs x hx; omega⟩
theorem FnExactReadDer : laws_FnExactReadDer.Pure := by
  intro b hm _ hw
  have hb : ∀ x ∈ b, 0 ≤ x ∧ x ≤ 255 := fun x hx => wf8 (hw x hx)
  by_cases c : b.length > 1048576
  · exact ⟨0, rfl, hb, hm, .inl c⟩
  obtain ⟨r, r1, r2, hr⟩ : ∃ r r1 r2, readDer b = (r, r1, r2) := ⟨_, _, _, rfl⟩
  have hs := readDer_small b
  rw [hr] at hs
  obtain ⟨hs1, hs2⟩ := hs
  have hs1 : r.length ≤ 300 := hs1
  have hs2 : ∀ x ∈ r, x.f1.length ≤ 4000 := hs2
  obtain ⟨K2, h2⟩ := toByteS_ev b (by omega)
  obtain ⟨K3, h3⟩ := eqByteS_ev b (by omega)
  obtain ⟨K4, h4⟩ := eqItemS_ev r (by omega) (fun x hx => by have := hs2 x hx; omega)
  have hrt := lens_tot300 r hs1 (fun x hx => by have := hs2 x hx; omega)
  have h6' := heldItems_ev (lens r) (by rw [lens_length]; omega) (by rw [lens_length]; exact hrt)
  rw [lens_length] at h6'
  obtain ⟨K6, h6⟩ := h6'
  exact ⟨K2 + K3 + K4 + K6, rfl, hb, hm, .inr ⟨by omega, r, r1, r2, hr, h2 _ (by omega), h3 _ (by omega), h4 _ (by omega), h6 _ (by omega), by omega, fun x hx => by have := hs2 x hx; omega, by omega⟩⟩

end Go.Proofs.Ytmeobalddjembaa.Pure
