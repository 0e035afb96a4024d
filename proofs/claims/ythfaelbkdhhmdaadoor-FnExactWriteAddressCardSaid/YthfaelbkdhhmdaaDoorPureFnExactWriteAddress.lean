/- The program's WriteAddress returns what the reference's returns, for all arguments that the law lets in. -/
import Derived.Test.YthfaelbkdhhmdaaDoorGFnExactWriteAddressx3
import Derived.Test.YthfaelbkdhhmdaaDoorBase
namespace Go.Proofs.YthfaelbkdhhmdaaDoor.Pure
open Go.RowKit Go.Proofs.YthfaelbkdhhmdaaDoor.GFnExactWriteAddress Go.Proofs.YthfaelbkdhhmdaaDoorW.PrintWords Go.Proofs.YthfaelbkdhhmdaaDoorW.PrintLast Go.Proofs.YthfaelbkdhhmdaaDoor.Base
set_option linter.unusedVariables false
set_option linter.unusedSimpArgs false

theorem l1In_eq (x a b : Int) : spec_l1In.f x a b = some (decide (a ≤ x ∧ x ≤ b)) := by
  unfold spec_l1In.f
  by_cases h : x ≥ a
  · rw [if_pos h]; simp [show a ≤ x from h]
  · rw [if_neg h]; simp [show ¬ a ≤ x from h]
theorem within_eq (x a b : Int) : impl_within.f x a b = some (decide (a ≤ x ∧ x ≤ b)) := l1In_eq x a b
def addr (l : List Int) : Bool := l.all (fun x => decide (0 ≤ x ∧ x ≤ 255)) && ((l.length : Int) == 4)
theorem four_ev (l : List Int) (hl : l.length ≤ 1099511627776) : Ev (fun k => spec_l8Four.f k l) (addr l) := by
  unfold addr
  rw [← all_range_rd]
  refine all_ev (L := fun k i => spec_l8Four.l0 k l i) l.length ?_ ?_ ?_
  · intro i hi hp r h
    refine Ev.step (fun k => spec_l8Four.l0.eq_2 _ _ _) (ev_pos (by omega) (ev_pos (by omega) (ev_bindc (l1In_eq _ _ _) (ev_pos hp ?_))))
    rw [w64 (by omega) (by omega)]; exact h
  · intro i hi hp
    exact Ev.step (fun k => spec_l8Four.l0.eq_2 _ _ _) (ev_pos (by omega) (ev_pos (by omega) (ev_bindc (l1In_eq _ _ _) (ev_neg (by rw [hp]; simp) (Ev.now _)))))
  · exact Ev.step (fun k => spec_l8Four.l0.eq_2 _ _ _) (ev_neg (by omega) (Ev.now _))
theorem allWithin_ev (l : List Int) (a b : Int) (hl : l.length ≤ 1099511627776) : Ev (fun k => impl_allWithin.f k l a b) (l.all (fun x => decide (a ≤ x ∧ x ≤ b))) := by
  rw [← all_range_rd, ← Bool.and_true (List.all _ _)]
  refine all_ev (L := fun k i => impl_allWithin.l0 k a b l (l.length : Int) i) l.length ?_ ?_ ?_
  · intro i hi hp r h
    refine Ev.step (fun k => impl_allWithin.l0.eq_2 _ _ _ _ _ _) (ev_pos (by omega) (ev_pos (by omega) (ev_pos (by omega) (ev_bindc (within_eq _ _ _) (ev_pos hp ?_)))))
    rw [w64 (by omega) (by omega)]; exact h
  · intro i hi hp
    exact Ev.step (fun k => impl_allWithin.l0.eq_2 _ _ _ _ _ _) (ev_pos (by omega) (ev_pos (by omega) (ev_pos (by omega) (ev_bindc (within_eq _ _ _) (ev_neg (by rw [hp]; simp) (Ev.now _))))))
  · exact Ev.step (fun k => impl_allWithin.l0.eq_2 _ _ _ _ _ _) (ev_neg (by omega) (Ev.now _))
theorem isAddress_ev (l : List Int) (hl : l.length ≤ 1099511627776) : Ev (fun k => impl_isAddress.f k l) (addr l) := by
  unfold addr
  by_cases h : (l.length : Int) = 4
  · rw [show ((l.length : Int) == 4) = true by simpa using h, Bool.and_true]
    exact ev_pos h (Ev.bind (allWithin_ev l 0 255 hl) (Ev.now _))
  · rw [show ((l.length : Int) == 4) = false by simpa using h, Bool.and_false]
    exact ev_neg h (Ev.now _)
def tell (v : Int) : ByteArray := ⟨(Lib.itoa v).toArray⟩
set_option maxRecDepth 100000 in
theorem told_all (k : Nat) : (List.range 256).all (fun v => decide (spec_l1Told.f (k + 5) (v : Int) = some (tell (v : Int)))) = true := by kernel_rfl
set_option maxRecDepth 100000 in
theorem tell_size_all : (List.range 256).all (fun v => decide ((tell (v : Int)).size ≤ 3)) = true := by decide +kernel
theorem told_ev (v : Int) (h0 : 0 ≤ v) (h1 : v ≤ 255) : Ev (fun k => spec_l1Told.f k v) (tell v) := by
  refine ⟨5, fun k hk => ?_⟩
  have h := List.all_eq_true.1 (told_all (k - 5)) v.toNat (List.mem_range.2 (by omega))
  rw [Nat.sub_add_cancel hk, show ((v.toNat : Nat) : Int) = v by omega] at h
  exact of_decide_eq_true h
theorem tell_size (v : Int) (h0 : 0 ≤ v) (h1 : v ≤ 255) : (tell v).size ≤ 3 := by
  have h := List.all_eq_true.1 tell_size_all v.toNat (List.mem_range.2 (by omega))
  rw [show ((v.toNat : Nat) : Int) = v by omega] at h
  exact of_decide_eq_true h
theorem itoa_eq (v : Int) (h0 : 0 ≤ v) (h1 : v ≤ 255) : Hand.strconv_Itoa.f v = some (tell v) := by
  unfold Hand.strconv_Itoa.f
  rw [if_pos h0, if_pos h1]
  rfl
theorem toIntS_ev (l : List Int) (hl : l.length ≤ 1048576) : Ev (fun k => laws_toIntS.f k l) l := by
  refine ev_pos (by omega) (ev_pos (by omega) ?_)
  rw [show ((l.length : Int) : Int).toNat = l.length by omega]
  exact copy_ev (L := laws_toIntS.l0) (fun _ _ _ _ => rfl) l (by omega)
theorem eqIntS_ev (l : List Int) (hl : l.length ≤ 1048576) : Ev (fun k => laws_eqIntS.f k l l) true :=
  ev_pos rfl (by simpa using eq_ev (L := laws_eqIntS.l0) (fun _ _ _ _ => rfl) l l (by omega) rfl)
def dot : ByteArray := ⟨#[46]⟩
def text (a b c d : ByteArray) : ByteArray := ((((((a ++ dot) ++ b) ++ dot) ++ c) ++ dot) ++ d)
theorem join_text (a b c d : ByteArray) : (⟨(Lib.join ([a, b, c, d].map (·.data.toList)) dot.data.toList).toArray⟩ : ByteArray) = text a b c d := by
  apply ByteArray.ext
  apply Array.ext'
  simp [text, Lib.join, dot, ByteArray.data_append, Array.toList_append]
theorem addr_four (l : List Int) (h : addr l = true) : ∃ a b c d, l = [a, b, c, d] ∧ (0 ≤ a ∧ a ≤ 255) ∧ (0 ≤ b ∧ b ≤ 255) ∧ (0 ≤ c ∧ c ≤ 255) ∧ (0 ≤ d ∧ d ≤ 255) := by
  unfold addr at h
  rw [Bool.and_eq_true, List.all_eq_true] at h
  obtain ⟨h1, h2⟩ := h
  have h2 := eq_of_beq h2
  match l, h1, h2 with
  | [a, b, c, d], h1, _ =>
    exact ⟨a, b, c, d, rfl, of_decide_eq_true (h1 a (by simp)), of_decide_eq_true (h1 b (by simp)), of_decide_eq_true (h1 c (by simp)), of_decide_eq_true (h1 d (by simp))⟩
def res (l : List Int) : ByteArray × Bool := if addr l = true then (text (tell (rd l 0)) (tell (rd l 1)) (tell (rd l 2)) (tell (rd l 3)), true) else (⟨#[]⟩, false)
theorem dot_size : dot.size = 1 := rfl
theorem spec_ev (l : List Int) (hl : l.length ≤ 1048576) : Ev (fun k => spec_WriteAddress.f k l) (res l) := by
  refine Ev.bind (four_ev l (by omega)) ?_
  unfold res
  cases h : addr l with
  | false => exact ev_neg (by simp) (Ev.now _)
  | true =>
    obtain ⟨a, b, c, d, rfl, ha, hb, hc, hd⟩ := addr_four l h
    have sa := tell_size a ha.1 ha.2
    have sb := tell_size b hb.1 hb.2
    have sc := tell_size c hc.1 hc.2
    have sd := tell_size d hd.1 hd.2
    have ea := told_ev a ha.1 ha.2
    have eb := told_ev b hb.1 hb.2
    have ec := told_ev c hc.1 hc.2
    have ed := told_ev d hd.1 hd.2
    rw [if_pos rfl]
    have r0 : rd [a, b, c, d] 0 = a := rfl
    have r1 : rd [a, b, c, d] 1 = b := rfl
    have r2 : rd [a, b, c, d] 2 = c := rfl
    have r3 : rd [a, b, c, d] 3 = d := rfl
    rw [r0, r1, r2, r3]
    generalize tell a = ta at *
    generalize tell b = tb at *
    generalize tell c = tc at *
    generalize tell d = td at *
    have ds : (⟨#[46]⟩ : ByteArray).size = 1 := rfl
    exact ev_pos rfl (ev_pos (by simp) (Ev.bind ea (ev_pos (by omega) (ev_pos (by simp) (Ev.bind eb (ev_pos (by rw [ByteArray.size_append]; omega) (ev_pos (by simp only [ByteArray.size_append]; omega) (ev_pos (by simp)
      (Ev.bind ec (ev_pos (by simp only [ByteArray.size_append]; omega) (ev_pos (by simp only [ByteArray.size_append]; omega) (ev_pos (by simp) (Ev.bind ed (ev_pos (by simp only [ByteArray.size_append]; omega) (Ev.now _)))))))))))))))
theorem impl_ev (l : List Int) (hl : l.length ≤ 1048576) : Ev (fun k => impl_WriteAddress.f k l) (res l) := by
  refine Ev.bind (isAddress_ev l (by omega)) ?_
  unfold res
  cases h : addr l with
  | false => exact ev_neg (by simp) (Ev.now _)
  | true =>
    obtain ⟨a, b, c, d, rfl, ha, hb, hc, hd⟩ := addr_four l h
    have sa := tell_size a ha.1 ha.2
    have sb := tell_size b hb.1 hb.2
    have sc := tell_size c hc.1 hc.2
    have sd := tell_size d hd.1 hd.2
    have ea := itoa_eq a ha.1 ha.2
    have eb := itoa_eq b hb.1 hb.2
    have ec := itoa_eq c hc.1 hc.2
    have ed := itoa_eq d hd.1 hd.2
    rw [if_pos rfl]
    have r0 : rd [a, b, c, d] 0 = a := rfl
    have r1 : rd [a, b, c, d] 1 = b := rfl
    have r2 : rd [a, b, c, d] 2 = c := rfl
    have r3 : rd [a, b, c, d] 3 = d := rfl
    rw [r0, r1, r2, r3]
    have hj : Hand.strings_Join.f [tell a, tell b, tell c, tell d] dot = some (text (tell a) (tell b) (tell c) (tell d)) := by
      have e := join_text (tell a) (tell b) (tell c) (tell d)
      have el : (Lib.join ([tell a, tell b, tell c, tell d].map (·.data.toList)) dot.data.toList).length ≤ 100000 := by
        have : (text (tell a) (tell b) (tell c) (tell d)).size ≤ 100000 := by
          simp only [text, ByteArray.size_append, dot_size]
          omega
        rw [← e] at this
        simpa [ByteArray.size] using this
      unfold Hand.strings_Join.f
      rw [if_pos (by simp), if_pos (by simp), if_pos el, e]
    have lp : ∀ (x4 : List ByteArray) (i : Int) (t : ByteArray) (z : ByteArray × Bool), 0 ≤ i → i < 4 → x4.length ≤ 4 → Hand.strconv_Itoa.f (rd [a, b, c, d] i) = some t → Ev (fun k => impl_WriteAddress.l0 k (x4 ++ [t]) [a, b, c, d] ([a, b, c, d].length : Int) (i + 1)) z → Ev (fun k => impl_WriteAddress.l0 k x4 [a, b, c, d] ([a, b, c, d].length : Int) i) z := by
      intro x4 i t z i0 i1 hx ht hz
      refine Ev.step (fun _ => impl_WriteAddress.l0.eq_2 _ _ _ _ _) (ev_pos (by simp; omega) (ev_pos i0 (ev_pos (by simp; omega) (ev_bindc ht (ev_pos (by omega) ?_)))))
      rw [w64 (by omega) (by omega)]
      exact hz
    refine ev_pos rfl (lp [] 0 _ _ (by omega) (by omega) (by simp) ea (lp _ (0 + 1) _ _ (by omega) (by omega) (by simp) eb (lp _ (0 + 1 + 1) _ _ (by omega) (by omega) (by simp) ec (lp _ (0 + 1 + 1 + 1) _ _ (by omega) (by omega) (by simp) ed ?_))))
    exact Ev.step (fun _ => impl_WriteAddress.l0.eq_2 _ _ _ _ _) (ev_neg (by simp) (ev_bindc hj (Ev.now _)))
theorem FnExactWriteAddress : laws_FnExactWriteAddress.Pure := by
  intro l _ _ _
  by_cases c0 : (l.length : Int) > 1048576
  · exact ev_k (ev_pos c0 (Ev.now _))
  have hl : l.length ≤ 1048576 := by omega
  have ht := toIntS_ev l hl
  refine ev_k (ev_neg c0 (Ev.bind ht (Ev.bind (spec_ev l hl) (Ev.bind ht (Ev.bind (impl_ev l hl) (ev_pos rfl ?_))))))
  rw [bne_self_eq_false]
  exact Ev.step (fun _ => laws_FnExactWriteAddress.j0.eq_2 _ _ _ _) (ev_neg (by simp) (Ev.bind ht (Ev.bind (eqIntS_ev l hl) (ev_pos rfl (Ev.now _)))))

end Go.Proofs.YthfaelbkdhhmdaaDoor.Pure
