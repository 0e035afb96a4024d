/- The program's Under returns what the reference's returns, for all arguments that the law lets in. -/
import Derived.Test.YthfaelbkdhhmdaaDoorGFnExactUnderx3
import Derived.Test.YthfaelbkdhhmdaaDoorBase
namespace Go.Proofs.YthfaelbkdhhmdaaDoor.Pure
open Go.RowKit Go.Proofs.YthfaelbkdhhmdaaDoor.GFnExactUnder Go.Proofs.YthfaelbkdhhmdaaDoorW.PrintWords Go.Proofs.YthfaelbkdhhmdaaDoorW.PrintLast Go.Proofs.YthfaelbkdhhmdaaDoor.Base
set_option linter.unusedVariables false
set_option linter.unusedSimpArgs false

/-! ### strings as lists of bytes -/
def S (l : List UInt8) : ByteArray := ⟨l.toArray⟩
theorem S_data (s : ByteArray) : S s.data.toList = s := by unfold S; simp
theorem S_size (l : List UInt8) : (S l).size = l.length := by unfold S ByteArray.size; simp
theorem S_list (l : List UInt8) : (S l).toList = l := by rw [ByteArray.toList_eq]; unfold S; simp
theorem S_dataList (l : List UInt8) : (S l).data.toList = l := by unfold S; simp
theorem dl_size (s : ByteArray) : s.data.toList.length = s.size := by rw [Array.length_toList]; rfl
theorem S_bt (l : List UInt8) (i : Nat) (h : i < l.length) : bt (S l) (i : Int) = ((l[i].toNat : Nat) : Int) := by
  have hs : i < (S l).size := by rw [S_size]; exact h
  unfold bt
  rw [dif_pos (by simpa using hs)]
  simp [S, ByteArray.getElem_eq_getElem_data]
theorem S_ext (l : List UInt8) (a b : Nat) : (S l).extract a b = S ((l.take b).drop a) := by
  apply ByteArray.ext
  rw [ByteArray.data_extract]
  unfold S
  simp [List.take_drop]
  by_cases h : a ≤ b
  · rw [show a + (b - a) = b by omega]
  · rw [List.drop_eq_nil_of_le (by simp <;> omega), List.drop_eq_nil_of_le (by simp <;> omega)]
theorem bd (x y : List UInt8) : (x == y) = decide (x = y) := by rw [Bool.eq_iff_iff]; simp
theorem u46 (b : UInt8) : ((b.toNat : Nat) : Int) = 46 ↔ b = 46 := by
  constructor
  · intro h
    apply UInt8.toNat_inj.1
    show b.toNat = 46
    omega
  · rintro rfl
    rfl
/-! ### the parts of a text between points -/
def spl : List UInt8 → List (List UInt8)
  | [] => [[]]
  | b :: l => if b = 46 then [] :: spl l else (b :: (spl l).headD []) :: (spl l).tail
def att (p : List UInt8) (L : List (List UInt8)) : List (List UInt8) := (p ++ L.headD []) :: L.tail
theorem spl_ne (l : List UInt8) : spl l ≠ [] := by
  cases l with
  | nil => simp [spl]
  | cons b l => rw [spl]; split <;> simp
theorem att_nil (l : List UInt8) : att [] (spl l) = spl l := by
  have := spl_ne l
  unfold att
  cases h : spl l with
  | nil => exact absurd h this
  | cons a t => simp
theorem att_pt (p l : List UInt8) : att p (spl (46 :: l)) = p :: spl l := by simp [att, spl]
theorem att_other (p l : List UInt8) (b : UInt8) (h : ¬ b = 46) : att p (spl (b :: l)) = att (p ++ [b]) (spl l) := by simp [att, spl, h]
theorem spl_length (l : List UInt8) : (spl l).length = l.count 46 + 1 := by
  induction l with
  | nil => rfl
  | cons b l ih =>
    rw [spl]
    have := spl_ne l
    have hp : 0 < (spl l).length := List.length_pos_iff.2 this
    by_cases c : b = 46
    · subst c
      simp [ih]
    · simp only [if_neg c, List.length_cons, List.length_tail]
      rw [List.count_cons_of_ne (by simpa using c)]
      omega
theorem spl_none (l : List UInt8) (h : (46 : UInt8) ∉ l) : spl l = [l] := by
  induction l with
  | nil => rfl
  | cons b l ih =>
    have h1 : ¬ b = 46 := fun e => h (by simp [e])
    have h2 : (46 : UInt8) ∉ l := fun e => h (by simp [e])
    rw [spl, if_neg h1, ih h2]
    simp
theorem spl_some (a b : List UInt8) (h : (46 : UInt8) ∉ a) : spl (a ++ 46 :: b) = a :: spl b := by
  induction a with
  | nil => simp [spl]
  | cons x a ih =>
    have h1 : ¬ x = 46 := fun e => h (by simp [e])
    have h2 : (46 : UInt8) ∉ a := fun e => h (by simp [e])
    rw [List.cons_append, spl, if_neg h1, ih h2]
    simp
theorem parts_l0 (l : List UInt8) (hl : l.length ≤ 1048576) : ∀ (r pre p : List UInt8) (x5 : List ByteArray), l = pre ++ p ++ r → x5.length + r.length ≤ 2000000 →
    Ev (fun k => spec_l8Parts.l0 k (S l) 46 x5 (pre.length : Int) ((pre ++ p).length : Int)) (x5 ++ (att p (spl r)).map S) := by
  intro r
  induction r with
  | nil =>
    intro pre p x5 e hx
    rw [List.append_nil] at e
    subst e
    refine Ev.step (fun k => spec_l8Parts.l0.eq_2 _ _ _ _ _ _) (ev_neg (by rw [S_size]; omega) (ev_pos (by omega) (ev_pos (by rw [S_size]; simp <;> omega) (ev_pos (by simp at hx; omega) ?_))))
    rw [S_ext, S_size, List.take_length, Int.toNat_natCast, List.drop_left]
    simp only [att, spl, List.headD_cons, List.append_nil, List.tail_cons, List.map_cons, List.map_nil]
    exact Ev.now _
  | cons b r ih =>
    intro pre p x5 e hx
    subst e
    simp only [List.length_cons] at hx
    have hb : bt (S (pre ++ p ++ b :: r)) ((pre ++ p).length : Int) = ((b.toNat : Nat) : Int) := by
      rw [S_bt _ _ (by simp <;> omega)]
      simp
    have e1 : Aside0 (wrap64 (((pre ++ p).length : Int) + 1) = ((pre ++ p ++ [b]).length : Int)) := ⟨by simp at hl ⊢; rw [w64 (by omega) (by omega)]; omega⟩
    by_cases c : b = 46
    · subst c
      have := ih (pre ++ p ++ [46]) [] (x5 ++ [S p]) (by simp) (by simp <;> omega)
      rw [att_nil, List.append_nil] at this
      rw [att_pt]
      refine Ev.step (fun k => spec_l8Parts.l0.eq_2 _ _ _ _ _ _) (ev_pos (by rw [S_size]; simp <;> omega) (ev_pos (by omega) (ev_pos (by rw [hb]; rfl) (ev_pos (by omega) (ev_pos (by simp <;> omega) (ev_pos (by rw [S_size]; simp <;> omega) (ev_pos (by simp at hl; omega) ?_)))))))
      rw [e1.out, S_ext, Int.toNat_natCast, Int.toNat_natCast, List.take_left, List.drop_left]
      simpa using this
    · have := ih pre (p ++ [b]) x5 (by simp) (by omega)
      rw [att_other _ _ _ c]
      refine Ev.step (fun k => spec_l8Parts.l0.eq_2 _ _ _ _ _ _) (ev_pos (by rw [S_size]; simp <;> omega) (ev_pos (by omega) (ev_neg (by rw [hb, u46]; exact c) ?_)))
      rw [e1.out]
      rw [← List.append_assoc] at this
      exact this
def prt (s : ByteArray) : List ByteArray := (spl s.data.toList).map S
theorem parts_ev (s : ByteArray) (hs : s.size ≤ 1048576) : Ev (fun k => spec_l8Parts.f k s 46) (prt s) := by
  have hl : s.data.toList.length = s.size := dl_size s
  have := parts_l0 s.data.toList (by omega) s.data.toList [] [] [] rfl (by simp at hl ⊢; omega)
  rw [att_nil, S_data] at this
  exact this
/-! ### the library's splitting -/
theorem ix_none (l : List UInt8) (h : (46 : UInt8) ∉ l) : Lib.indexByte l 46 = -1 := by
  induction l with
  | nil => rfl
  | cons b l ih =>
    have h1 : ¬ b = 46 := fun e => h (by simp [e])
    have h2 : (46 : UInt8) ∉ l := fun e => h (by simp [e])
    rw [Lib.indexByte, if_neg (by simpa using h1), ih h2]
    rfl
theorem ix_some (a b : List UInt8) (h : (46 : UInt8) ∉ a) : Lib.indexByte (a ++ 46 :: b) 46 = (a.length : Int) := by
  induction a with
  | nil => simp [Lib.indexByte]
  | cons x a ih =>
    have h1 : ¬ x = 46 := fun e => h (by simp [e])
    have h2 : (46 : UInt8) ∉ a := fun e => h (by simp [e])
    rw [List.cons_append, Lib.indexByte, if_neg (by simpa using h1), ih h2, if_neg (by simp <;> omega)]
    simp
theorem index_pt (s : ByteArray) : Hand.stringslite_Index.f s (⟨#[46]⟩ : ByteArray) = some (Lib.indexByte s.data.toList 46) := rfl
theorem first_pt (l : List UInt8) : (46 : UInt8) ∉ l ∨ ∃ a b, l = a ++ 46 :: b ∧ (46 : UInt8) ∉ a := by
  by_cases h : (46 : UInt8) ∈ l
  · obtain ⟨a, b, e, h2⟩ := List.eq_append_cons_of_mem h
    exact .inr ⟨a, b, e, h2⟩
  · exact .inl h
def splN : Nat → List UInt8 → List (List UInt8)
  | 0, l => [l]
  | n + 1, l => if (46 : UInt8) ∈ l then l.takeWhile (fun x => x != 46) :: splN n ((l.dropWhile (fun x => x != 46)).drop 1) else [l]
theorem splN_some (n : Nat) (a b : List UInt8) (h : (46 : UInt8) ∉ a) : splN (n + 1) (a ++ 46 :: b) = a :: splN n b := by
  have h1 : ∀ x ∈ a, (x != 46) = true := fun x hx => by
    simp only [bne_iff_ne, ne_eq]
    rintro rfl
    exact h hx
  rw [splN, if_pos (by simp), List.takeWhile_append_of_pos h1, List.dropWhile_append_of_pos h1]
  simp
theorem splN_none (n : Nat) (l : List UInt8) (h : (46 : UInt8) ∉ l) : splN n l = [l] := by
  cases n with
  | zero => rfl
  | succ n => rw [splN, if_neg h]
theorem splN_all : ∀ (n : Nat) (l : List UInt8), l.count 46 ≤ n → splN n l = spl l := by
  intro n
  induction n with
  | zero =>
    intro l h
    have : (46 : UInt8) ∉ l := List.count_eq_zero.1 (by omega)
    rw [spl_none l this]
    rfl
  | succ n ih =>
    intro l h
    rcases first_pt l with h1 | ⟨a, b, rfl, h2⟩
    · rw [splN_none _ _ h1, spl_none l h1]
    · rw [splN_some _ _ _ h2, spl_some _ _ h2, ih]
      rw [List.count_append, List.count_cons_self] at h
      omega
theorem gen_l0 (m : Nat) (hm : m ≤ 1048577) : ∀ (j : Nat) (l : List UInt8) (done : List ByteArray), done.length + j = m → l.length ≤ 1048576 →
    Ev (fun k => strings_genSplit.l0 k (S l) (⟨#[46]⟩ : ByteArray) 0 (m : Int) (done ++ List.replicate (j + 1) (⟨#[]⟩ : ByteArray)) (done.length : Int)) (done ++ (splN j l).map S) := by
  intro j
  induction j with
  | zero =>
    intro l done hj hl
    have e1 : Aside0 (wrap64 ((done.length : Int) + 1) = ((done.length + 1 : Nat) : Int)) := ⟨by rw [w64 (by omega) (by omega)]; rfl⟩
    refine Ev.step (fun k => strings_genSplit.l0.eq_2 _ _ _ _ _ _ _) (ev_neg (by omega) (ev_pos (by omega) (ev_pos (by simp <;> omega) ?_)))
    rw [e1.out]
    refine ev_pos (by omega) (ev_pos (by simp) ?_)
    rw [Int.toNat_natCast, Int.toNat_natCast]
    have : ((done ++ List.replicate (0 + 1) (⟨#[]⟩ : ByteArray)).set done.length (S l)).take (done.length + 1) = done ++ (splN 0 l).map S := by
      rw [List.set_append_right _ _ (Nat.le_refl _), Nat.sub_self]
      simp only [List.replicate_succ, List.replicate_zero, List.set_cons_zero, splN, List.map_cons, List.map_nil]
      exact List.take_of_length_le (by simp)
    rw [this]
    exact Ev.now _
  | succ j ih =>
    intro l done hj hl
    have e1 : Aside0 (wrap64 ((done.length : Int) + 1) = ((done.length + 1 : Nat) : Int)) := ⟨by rw [w64 (by omega) (by omega)]; rfl⟩
    rcases first_pt l with h1 | ⟨a, b, rfl, h2⟩
    · rw [splN_none _ _ h1]
      refine Ev.step (fun k => strings_genSplit.l0.eq_2 _ _ _ _ _ _ _) (ev_pos (by omega) (ev_bindc (a := -1) ?_ (ev_pos (by omega) (ev_pos (by omega) (ev_pos (by simp <;> omega) ?_)))))
      · unfold strings_Index.f
        rw [index_pt, S_dataList, ix_none l h1]
        rfl
      · rw [e1.out]
        refine ev_pos (by omega) (ev_pos (by simp <;> omega) ?_)
        rw [Int.toNat_natCast, Int.toNat_natCast]
        have : ((done ++ List.replicate (j + 1 + 1) (⟨#[]⟩ : ByteArray)).set done.length (S l)).take (done.length + 1) = done ++ [l].map S := by
          rw [List.set_append_right _ _ (Nat.le_refl _), Nat.sub_self, List.replicate_succ, List.set_cons_zero]
          rw [show ∀ X : List ByteArray, done ++ S l :: X = (done ++ [S l]) ++ X from fun X => by simp, show done.length + 1 = (done ++ [S l]).length by simp, List.take_left]
          rfl
        rw [this]
        exact Ev.now _
    · rw [splN_some _ _ _ h2]
      simp only [List.length_append, List.length_cons] at hl
      have := ih b (done ++ [S a]) (by simp <;> omega) (by omega)
      refine Ev.step (fun k => strings_genSplit.l0.eq_2 _ _ _ _ _ _ _) (ev_pos (by omega) (ev_bindc (a := (a.length : Int)) ?_ ?_))
      · unfold strings_Index.f
        rw [index_pt, S_dataList, ix_some a b h2]
        rfl
      · have e2 : Aside0 (wrap64 ((a.length : Int) + 0) = (a.length : Int)) := ⟨by rw [w64 (by omega) (by omega)]; omega⟩
        have e3 : Aside0 (wrap64 ((a.length : Int) + (((⟨#[46]⟩ : ByteArray).size : Nat) : Int)) = ((a.length + 1 : Nat) : Int)) := ⟨by show wrap64 ((a.length : Int) + 1) = _; rw [w64 (by omega) (by omega)]; rfl⟩
        refine ev_neg (by omega) ?_
        simp only [e2.out, e3.out, e1.out]
        refine ev_pos (by omega) (ev_pos (by rw [S_size]; simp <;> omega) (ev_pos (by omega) (ev_pos (by simp <;> omega) (ev_pos (by omega) (ev_pos (by rw [S_size]; simp <;> omega) ?_)))))
        rw [Int.toNat_natCast, Int.toNat_natCast, Int.toNat_natCast, S_ext, S_ext, S_size, List.take_length]
        have q1 : (a ++ 46 :: b).drop (a.length + 1) = b := by
          rw [show a ++ 46 :: b = (a ++ [46]) ++ b by simp, show a.length + 1 = (a ++ [46]).length by simp, List.drop_left]
        have q2 : ((a ++ 46 :: b).take a.length).drop 0 = a := by rw [List.take_left]; rfl
        have q3 : (done ++ List.replicate (j + 1 + 1) (⟨#[]⟩ : ByteArray)).set done.length (S a) = (done ++ [S a]) ++ List.replicate (j + 1) (⟨#[]⟩ : ByteArray) := by
          rw [List.set_append_right _ _ (Nat.le_refl _), Nat.sub_self]
          simp [List.replicate_succ]
        rw [q1, q2, q3]
        simp only [List.length_append, List.length_cons, List.length_nil, List.append_assoc, List.cons_append, List.nil_append, List.map_cons] at this ⊢
        exact this
theorem split_ev (s : ByteArray) (hs : s.size ≤ 1048576) : Ev (fun k => strings_Split.f k s (⟨#[46]⟩ : ByteArray)) (prt s) := by
  have hl : s.data.toList.length = s.size := dl_size s
  have hc : s.data.toList.count 46 ≤ s.size := by rw [← hl]; exact List.count_le_length
  refine Ev.bind (a := prt s) (ev_neg (by omega) (ev_neg (by rw [ByteArray.toList_eq]; simp) (ev_pos (by omega) (ev_bindc (show Hand.strings_Count.f s (⟨#[46]⟩ : ByteArray) = some ((s.data.toList.count 46 : Nat) : Int) from rfl) ?_)))) (Ev.now _)
  have e1 : Aside0 (wrap64 (((s.data.toList.count 46 : Nat) : Int) + 1) = ((s.data.toList.count 46 + 1 : Nat) : Int)) := ⟨by rw [w64 (by omega) (by omega)]; rfl⟩
  have e2 : Aside0 (wrap64 ((s.size : Int) + 1) = ((s.size + 1 : Nat) : Int)) := ⟨by rw [w64 (by omega) (by omega)]; rfl⟩
  have e3 : Aside0 (mn ((s.data.toList.count 46 + 1 : Nat) : Int) ((s.size + 1 : Nat) : Int) = ((s.data.toList.count 46 + 1 : Nat) : Int)) := ⟨by unfold mn; split <;> omega⟩
  have e4 : Aside0 (wrap64 (((s.data.toList.count 46 + 1 : Nat) : Int) - 1) = ((s.data.toList.count 46 : Nat) : Int)) := ⟨by rw [w64 (by omega) (by omega)]; omega⟩
  rw [e1.out]
  refine Ev.step (fun k => strings_genSplit.j0.eq_2 _ _ _ _ _) ?_
  rw [e2.out, e3.out, e4.out]
  refine ev_pos (by omega) (ev_pos (by omega) ?_)
  have := gen_l0 (s.data.toList.count 46) (by omega) (s.data.toList.count 46) s.data.toList [] (by simp) (by omega)
  rw [splN_all _ _ (Nat.le_refl _), S_data] at this
  rw [Int.toNat_natCast]
  exact this
/-! ### labels -/
def okc (b : Int) : Bool := decide ((97 ≤ b ∧ b ≤ 122) ∨ (48 ≤ b ∧ b ≤ 57) ∨ b = 45)
def labE (s : ByteArray) : Bool := if 1 ≤ (s.size : Int) ∧ (s.size : Int) ≤ 20 then (if bt s 0 = 45 then false else bt s ((s.size : Int) - 1) != 45) else false
def labB (s : ByteArray) : Bool := (List.range s.size).all (fun i => okc (bt s (i : Int))) && labE s
theorem l1In_eq (x a b : Int) : spec_l1In.f x a b = some (decide (a ≤ x ∧ x ≤ b)) := by
  unfold spec_l1In.f
  by_cases h : x ≥ a
  · rw [if_pos h]; simp [show a ≤ x from h]
  · rw [if_neg h]; simp [show ¬ a ≤ x from h]
theorem within_eq (x a b : Int) : impl_within.f x a b = some (decide (a ≤ x ∧ x ≤ b)) := l1In_eq x a b
theorem isDigit_eq (c : Int) : impl_isDigit.f c = some (decide (48 ≤ c ∧ c ≤ 57)) := l1In_eq c 48 57
theorem label_spec (s : ByteArray) (hs : s.size ≤ 1048576) : Ev (fun k => spec_l8Label.f k s) (labB s) := by
  refine all_ev (L := fun k i => spec_l8Label.l0 k s i) s.size ?_ ?_ ?_
  · intro i hi hp r h
    have hb := bt_range s (i : Int)
    have hp := of_decide_eq_true hp
    have ew : Aside0 (wrap64 (bt s (i : Int)) = bt s (i : Int)) := ⟨w64 (by omega) (by omega)⟩
    have ei : Aside0 (wrap64 ((i : Int) + 1) = ((i + 1 : Nat) : Int)) := ⟨by rw [w64 (by omega) (by omega)]; rfl⟩
    refine Ev.step (fun k => spec_l8Label.l0.eq_2 _ _ _) (ev_pos (by omega) (ev_pos (by omega) (ev_bindc (l1In_eq _ _ _) ?_)))
    rw [ew.out, ei.out]
    by_cases c1 : 97 ≤ bt s (i : Int) ∧ bt s (i : Int) ≤ 122
    · exact ev_pos (decide_eq_true c1) h
    · refine ev_neg (by rw [decide_eq_false c1]; simp) (ev_bindc (l1In_eq _ _ _) ?_)
      by_cases c2 : 48 ≤ bt s (i : Int) ∧ bt s (i : Int) ≤ 57
      · exact ev_pos (decide_eq_true c2) h
      · exact ev_neg (by rw [decide_eq_false c2]; simp) (ev_pos (by omega) h)
  · intro i hi hp
    have hb := bt_range s (i : Int)
    have hp := of_decide_eq_false hp
    have ew : Aside0 (wrap64 (bt s (i : Int)) = bt s (i : Int)) := ⟨w64 (by omega) (by omega)⟩
    refine Ev.step (fun k => spec_l8Label.l0.eq_2 _ _ _) (ev_pos (by omega) (ev_pos (by omega) (ev_bindc (l1In_eq _ _ _) ?_)))
    rw [ew.out]
    exact ev_neg (by rw [decide_eq_false (by omega)]; simp) (ev_bindc (l1In_eq _ _ _) (ev_neg (by rw [decide_eq_false (by omega)]; simp) (ev_neg (by omega) (Ev.now _))))
  · refine Ev.step (fun k => spec_l8Label.l0.eq_2 _ _ _) (ev_neg (by omega) (ev_bindc (l1In_eq _ _ _) ?_))
    unfold labE
    by_cases c : 1 ≤ (s.size : Int) ∧ (s.size : Int) ≤ 20
    · have e1 : Aside0 (wrap64 ((s.size : Int) - 1) = (s.size : Int) - 1) := ⟨w64 (by omega) (by omega)⟩
      rw [if_pos c, e1.out]
      refine ev_pos (decide_eq_true c) (ev_pos (by omega) (ev_ite (fun _ => Ev.now _) (fun _ => ev_pos (by omega) (ev_pos (by omega) (Ev.now _)))))
    · rw [if_neg c]
      exact ev_neg (by rw [decide_eq_false c]; simp) (Ev.now _)
theorem label_impl (s : ByteArray) (hs : s.size ≤ 1048576) : Ev (fun k => impl_isLabel.f k s) (labB s) := by
  refine all_ev (L := fun k i => impl_isLabel.l0 k s (s.size : Int) i) s.size ?_ ?_ ?_
  · intro i hi hp r h
    have hb := bt_range s (i : Int)
    have hp := of_decide_eq_true hp
    have ei : Aside0 (wrap64 ((i : Int) + 1) = ((i + 1 : Nat) : Int)) := ⟨by rw [w64 (by omega) (by omega)]; rfl⟩
    refine Ev.step (fun k => impl_isLabel.l0.eq_2 _ _ _ _) (ev_pos (by omega) (ev_pos (by omega) (ev_pos (by omega) (ev_bindc (isDigit_eq _) ?_))))
    rw [ei.out]
    by_cases c2 : 48 ≤ bt s (i : Int) ∧ bt s (i : Int) ≤ 57
    · exact ev_pos (decide_eq_true c2) h
    · refine ev_neg (by rw [decide_eq_false c2]; simp) ?_
      by_cases c3 : bt s (i : Int) < 97
      · exact ev_pos c3 (ev_pos (by omega) h)
      · exact ev_neg c3 (ev_neg (by omega) h)
  · intro i hi hp
    have hb := bt_range s (i : Int)
    have hp := of_decide_eq_false hp
    refine Ev.step (fun k => impl_isLabel.l0.eq_2 _ _ _ _) (ev_pos (by omega) (ev_pos (by omega) (ev_pos (by omega) (ev_bindc (isDigit_eq _) (ev_neg (by rw [decide_eq_false (by omega)]; simp) ?_)))))
    by_cases c3 : bt s (i : Int) < 97
    · exact ev_pos c3 (ev_neg (by omega) (Ev.now _))
    · exact ev_neg c3 (ev_pos (by omega) (ev_neg (by omega) (Ev.now _)))
  · refine Ev.step (fun k => impl_isLabel.l0.eq_2 _ _ _ _) (ev_neg (by omega) (ev_bindc (within_eq _ _ _) ?_))
    unfold labE
    by_cases c : 1 ≤ (s.size : Int) ∧ (s.size : Int) ≤ 20
    · have e1 : Aside0 (wrap64 ((s.size : Int) - 1) = (s.size : Int) - 1) := ⟨w64 (by omega) (by omega)⟩
      rw [if_pos c, e1.out]
      refine ev_pos (decide_eq_true c) (ev_pos (by omega) (ev_ite (fun _ => Ev.now _) (fun _ => ev_pos (by omega) (ev_pos (by omega) (Ev.now _)))))
    · rw [if_neg c]
      exact ev_neg (by rw [decide_eq_false c]; simp) (Ev.now _)
def dgB (s : ByteArray) : Bool := (List.range s.size).all (fun i => decide (48 ≤ bt s (i : Int) ∧ bt s (i : Int) ≤ 57)) && decide ((s.size : Int) > 0)
theorem digits_ev (s : ByteArray) (hs : s.size ≤ 1048576) : Ev (fun k => spec_l8Digits.f k s) (dgB s) := by
  refine all_ev (L := fun k i => spec_l8Digits.l0 k s i) s.size ?_ ?_ ?_
  · intro i hi hp r h
    have hb := bt_range s (i : Int)
    refine Ev.step (fun k => spec_l8Digits.l0.eq_2 _ _ _) (ev_pos (by omega) (ev_pos (by omega) (ev_bindc (l1In_eq _ _ _) (ev_pos (by rw [w64 (by omega) (by omega)]; exact hp) ?_))))
    rw [w64 (by omega) (by omega)]; exact h
  · intro i hi hp
    have hb := bt_range s (i : Int)
    exact Ev.step (fun k => spec_l8Digits.l0.eq_2 _ _ _) (ev_pos (by omega) (ev_pos (by omega) (ev_bindc (l1In_eq _ _ _) (ev_neg (by rw [w64 (by omega) (by omega), hp]; simp) (Ev.now _)))))
  · exact Ev.step (fun k => spec_l8Digits.l0.eq_2 _ _ _) (ev_neg (by omega) (Ev.now _))
/-! ### hosts -/
theorem rdOf_mem {xs : List ByteArray} {i : Int} (h0 : 0 ≤ i) (h1 : i < (xs.length : Int)) : rdOf ByteArray.empty xs i ∈ xs := by
  obtain ⟨n, rfl⟩ := Int.eq_ofNat_of_zero_le h0
  have : n < xs.length := by omega
  simp [rdOf, this]
theorem spl_small (l : List UInt8) : ∀ x ∈ spl l, x.length ≤ l.length := by
  induction l with
  | nil => intro x hx; simp [spl] at hx; simp [hx]
  | cons b l ih =>
    intro x hx
    rw [spl] at hx
    by_cases c : b = 46
    · rw [if_pos c] at hx
      rcases List.mem_cons.1 hx with rfl | h
      · simp
      · have := ih x h
        simp <;> omega
    · rw [if_neg c] at hx
      have hne := spl_ne l
      cases h : spl l with
      | nil => exact absurd h hne
      | cons a t =>
        rw [h] at hx ih
        simp only [List.headD_cons, List.tail_cons] at hx
        rcases List.mem_cons.1 hx with rfl | hm
        · have := ih a (by simp)
          simp <;> omega
        · have := ih x (by simp [hm])
          simp <;> omega
theorem prt_small (s : ByteArray) : ∀ x ∈ prt s, x.size ≤ s.size := by
  intro x hx
  obtain ⟨y, hy, rfl⟩ := List.mem_map.1 hx
  have := spl_small _ y hy
  rw [dl_size] at this
  rw [S_size]
  exact this
theorem prt_pos (s : ByteArray) : 0 < (prt s).length := by unfold prt; rw [List.length_map, spl_length]; omega
theorem prt_len (s : ByteArray) : (prt s).length ≤ s.size + 1 := by
  unfold prt
  rw [List.length_map, spl_length]
  have : s.data.toList.count 46 ≤ s.data.toList.length := List.count_le_length
  have hl : s.data.toList.length = s.size := dl_size s
  omega
def allLab (s : ByteArray) : Bool := (List.range (prt s).length).all (fun i => labB (rdOf ByteArray.empty (prt s) (i : Int)))
def lastP (s : ByteArray) : ByteArray := rdOf ByteArray.empty (prt s) (((prt s).length : Int) - 1)
def hostB (s : ByteArray) : Bool := if (s.size : Int) > 80 then false else (allLab s && (if ((prt s).length : Int) ≤ 8 then !(dgB (lastP s)) else false))
theorem host_spec (s : ByteArray) (hs : s.size ≤ 1048576) : Ev (fun k => spec_HostOk.f k s) (hostB s) := by
  unfold hostB
  by_cases c : (s.size : Int) > 80
  · rw [if_pos c]
    exact ev_pos c (Ev.now _)
  rw [if_neg c]
  have hp := prt_pos s
  have hq := prt_len s
  refine ev_neg c (Ev.bind (parts_ev s hs) ?_)
  have sz : ∀ i : Int, 0 ≤ i → i < ((prt s).length : Int) → (rdOf ByteArray.empty (prt s) i).size ≤ 1048576 := fun i h0 h1 => by
    have := prt_small s _ (rdOf_mem h0 h1)
    omega
  refine all_ev (L := fun k i => spec_HostOk.l0 k (prt s) i) (prt s).length ?_ ?_ ?_
  · intro i hi hp' r h
    refine Ev.step (fun k => spec_HostOk.l0.eq_2 _ _ _) (ev_pos (by omega) (ev_pos (by omega) (Ev.bind (label_spec _ (sz _ (by omega) (by omega))) (ev_pos hp' ?_))))
    rw [w64 (by omega) (by omega)]
    exact h
  · intro i hi hp'
    exact Ev.step (fun k => spec_HostOk.l0.eq_2 _ _ _) (ev_pos (by omega) (ev_pos (by omega) (Ev.bind (label_spec _ (sz _ (by omega) (by omega))) (ev_neg (by rw [hp']; simp) (Ev.now _)))))
  · refine Ev.step (fun k => spec_HostOk.l0.eq_2 _ _ _) (ev_neg (by omega) ?_)
    by_cases c2 : ((prt s).length : Int) ≤ 8
    · rw [if_pos c2]
      refine ev_pos c2 ?_
      rw [w64 (by omega) (by omega)]
      exact ev_pos (by omega) (ev_pos (by omega) (Ev.bind (digits_ev _ (sz _ (by omega) (by omega))) (Ev.now _)))
    · rw [if_neg c2]
      exact ev_neg c2 (Ev.now _)
theorem any_ev (s : ByteArray) (hs : s.size ≤ 1048576) : Ev (fun k => slices_ContainsFunc_string_string_at57.f k (prt s)) (!(allLab s)) := by
  have hq := prt_len s
  have sz : ∀ i : Int, 0 ≤ i → i < ((prt s).length : Int) → (rdOf ByteArray.empty (prt s) i).size ≤ 1048576 := fun i h0 h1 => by
    have := prt_small s _ (rdOf_mem h0 h1)
    omega
  have key : ∀ d i : Nat, i + d = (prt s).length → (∀ j : Nat, j < i → labB (rdOf ByteArray.empty (prt s) (j : Int)) = true) → ∃ r, Ev (fun k => slices_IndexFunc_string_string_at57.l0 k (prt s) ((prt s).length : Int) (i : Int)) r ∧ decide (r ≥ 0) = !(allLab s) := by
    intro d
    induction d with
    | zero =>
      intro i hi hj
      refine ⟨-1, Ev.step (fun k => slices_IndexFunc_string_string_at57.l0.eq_2 _ _ _ _) (ev_neg (by omega) (Ev.now _)), ?_⟩
      have : allLab s = true := by
        unfold allLab
        rw [List.all_eq_true]
        intro x hx
        exact hj x (by have := List.mem_range.1 hx; omega)
      rw [this]
      rfl
    | succ d ih =>
      intro i hi hj
      have hl := label_impl _ (sz (i : Int) (by omega) (by omega))
      cases c : labB (rdOf ByteArray.empty (prt s) (i : Int)) with
      | true =>
        rw [c] at hl
        obtain ⟨r, h1, h2⟩ := ih (i + 1) (by omega) (fun j hj' => by
          by_cases e : j = i
          · rw [e]; exact c
          · exact hj j (by omega))
        refine ⟨r, Ev.step (fun k => slices_IndexFunc_string_string_at57.l0.eq_2 _ _ _ _) (ev_pos (by omega) (ev_pos (by omega) (ev_pos (by omega) (Ev.bind (a := false) (Ev.bind hl (Ev.now _)) (ev_neg (by simp) ?_))))), h2⟩
        rw [w64 (by omega) (by omega)]
        exact h1
      | false =>
        rw [c] at hl
        refine ⟨i, Ev.step (fun k => slices_IndexFunc_string_string_at57.l0.eq_2 _ _ _ _) (ev_pos (by omega) (ev_pos (by omega) (ev_pos (by omega) (Ev.bind (a := true) (Ev.bind hl (Ev.now _)) (ev_pos rfl (Ev.now _)))))), ?_⟩
        have : allLab s = false := by
          unfold allLab
          rw [List.all_eq_false]
          exact ⟨i, List.mem_range.2 (by omega), by simp [c]⟩
        rw [this, decide_eq_true (by omega)]
        rfl
  obtain ⟨r, h1, h2⟩ := key (prt s).length 0 (by omega) (fun j hj => by omega)
  rw [← h2]
  exact Ev.bind h1 (Ev.now _)
theorem dw_nil (p : UInt8 → Bool) (l : List UInt8) : l.dropWhile p = [] ↔ l.all p = true := by
  induction l with
  | nil => simp
  | cons b l ih =>
    by_cases c : p b = true
    · rw [List.dropWhile_cons_of_pos c, ih]; simp [c]
    · rw [List.dropWhile_cons_of_neg c]; simp [c]
theorem trim_nil (l cs : List UInt8) : Lib.trimS l cs = [] ↔ l.all (fun b => cs.contains b) = true := by
  unfold Lib.trimS Lib.trimLeftS Lib.trimRightS
  rw [dw_nil]
  constructor
  · intro h
    by_cases c : l.reverse.dropWhile (fun b => cs.contains b) = []
    · rw [dw_nil, List.all_reverse] at c
      exact c
    · exfalso
      obtain ⟨a, t, e⟩ := List.exists_cons_of_ne_nil c
      rw [e] at h
      have h1 := List.all_eq_true.1 h a (by simp)
      have h2 : ¬ (fun b => cs.contains b) a = true := by
        have := List.head_dropWhile_not (fun b => cs.contains b) (l := l.reverse) c
        simp only [e, List.head_cons] at this
        show ¬ cs.contains a = true
        rw [this]
        simp
      exact h2 h1
  · intro h
    have : l.reverse.dropWhile (fun b => cs.contains b) = [] := by rw [dw_nil, List.all_reverse]; exact h
    rw [this]
    rfl
theorem trim_digits (x : ByteArray) (hx : x.size ≤ 1048576) : ∃ t, Hand.strings_Trim.f x (⟨#[48, 49, 50, 51, 52, 53, 54, 55, 56, 57]⟩ : ByteArray) = some t ∧ (t.toList != ([] : List UInt8)) = !((List.range x.size).all (fun i => decide (48 ≤ bt x (i : Int) ∧ bt x (i : Int) ≤ 57))) := by
  refine ⟨S (Lib.trimS x.data.toList [48, 49, 50, 51, 52, 53, 54, 55, 56, 57]), ?_, ?_⟩
  · unfold Hand.strings_Trim.f
    rw [if_pos (by omega), if_pos (by decide), if_pos (by decide)]
    rfl
  · rw [S_list]
    have e : (Lib.trimS x.data.toList [48, 49, 50, 51, 52, 53, 54, 55, 56, 57] = []) ↔ ((List.range x.size).all (fun i => decide (48 ≤ bt x (i : Int) ∧ bt x (i : Int) ≤ 57)) = true) := by
      rw [trim_nil, List.all_eq_true, List.all_eq_true]
      have hl : x.data.toList.length = x.size := dl_size x
      have hcs : ∀ b : UInt8, ([48, 49, 50, 51, 52, 53, 54, 55, 56, 57] : List UInt8).contains b = true ↔ (48 ≤ ((b.toNat : Nat) : Int) ∧ ((b.toNat : Nat) : Int) ≤ 57) := by
        have : ∀ n : Fin 256, ([48, 49, 50, 51, 52, 53, 54, 55, 56, 57] : List UInt8).contains (UInt8.ofNat n) = true ↔ (48 ≤ ((n.val : Nat) : Int) ∧ ((n.val : Nat) : Int) ≤ 57) := by decide +kernel
        intro b
        have h := this ⟨b.toNat, b.toNat_lt⟩
        simpa using h
      constructor
      · intro h i hi
        have hi := List.mem_range.1 hi
        have hm : x.data.toList[i] ∈ x.data.toList := List.getElem_mem (by omega)
        have h1 := (hcs _).1 (h _ hm)
        have h2 := S_bt x.data.toList i (by omega)
        rw [S_data] at h2
        rw [h2]
        exact decide_eq_true h1
      · intro h b hb
        obtain ⟨i, hi, rfl⟩ := List.mem_iff_getElem.1 hb
        have h1 := of_decide_eq_true (h i (List.mem_range.2 (by omega)))
        have h2 := S_bt x.data.toList i hi
        rw [S_data] at h2
        rw [h2] at h1
        exact (hcs _).2 h1
    rw [Bool.eq_iff_iff]
    simp only [bne_iff_ne, ne_eq, Bool.not_eq_true', e]
    simp
theorem host_impl (s : ByteArray) (hs : s.size ≤ 1048576) : Ev (fun k => impl_HostOk.f k s) (hostB s) := by
  unfold hostB
  by_cases c : (s.size : Int) > 80
  · rw [if_pos c]
    exact ev_pos c (Ev.now _)
  rw [if_neg c]
  have hp := prt_pos s
  have hq := prt_len s
  refine ev_neg c (Ev.bind (split_ev s hs) ?_)
  by_cases c2 : ((prt s).length : Int) > 8
  · have hB : (if ((prt s).length : Int) ≤ 8 then !(dgB (lastP s)) else false) = false := if_neg (by omega)
    rw [hB, Bool.and_false]
    exact ev_pos c2 (Ev.now _)
  have hB : (if ((prt s).length : Int) ≤ 8 then !(dgB (lastP s)) else false) = !(dgB (lastP s)) := if_pos (by omega)
  rw [hB]
  refine ev_neg c2 (Ev.bind (any_ev s hs) ?_)
  cases h : allLab s with
  | false => exact ev_pos rfl (Ev.now _)
  | true =>
    refine ev_neg (by simp) ?_
    rw [w64 (by omega) (by omega)]
    have hm := prt_small s _ (rdOf_mem (xs := prt s) (i := ((prt s).length : Int) - 1) (by omega) (by omega))
    obtain ⟨t, h1, h2⟩ := trim_digits (lastP s) (by unfold lastP; omega)
    refine ev_pos (by omega) (ev_pos (by omega) (ev_bindc h1 ?_))
    have hlab : labB (lastP s) = true := by
      unfold allLab at h
      have := List.all_eq_true.1 h ((prt s).length - 1) (List.mem_range.2 (by omega))
      rw [show (((prt s).length - 1 : Nat) : Int) = ((prt s).length : Int) - 1 by omega] at this
      exact this
    have hsz : (lastP s).size > 0 := by
      unfold labB labE at hlab
      by_cases c3 : 1 ≤ ((lastP s).size : Int) ∧ ((lastP s).size : Int) ≤ 20
      · omega
      · rw [if_neg c3] at hlab
        simp at hlab
    rw [h2]
    unfold dgB
    rw [decide_eq_true (by omega), Bool.and_true, Bool.true_and]
    exact Ev.now _
/-! ### Under -/
theorem host_small {s : ByteArray} (h : hostB s = true) : s.size ≤ 80 := by
  unfold hostB at h
  by_cases c : (s.size : Int) > 80
  · rw [if_pos c] at h
    cases h
  · omega
def underT (b h : List UInt8) : Bool := if b.length < h.length then decide (h.drop (h.length - (1 + b.length)) = 46 :: b) else false
def underB (b h : List UInt8) : Bool := if hostB (S b) = true then (if hostB (S h) = true then (if b = h then true else underT b h) else false) else false
theorem drop_at (h : List UInt8) (n : Nat) (hn : n < h.length) : h.drop n = h[n] :: h.drop (n + 1) := List.drop_eq_getElem_cons hn
theorem under_spec (b h : List UInt8) (hb : b.length ≤ 1048576) (hh : h.length ≤ 1048576) : Ev (fun k => spec_Under.f k (S b) (S h)) (underB b h) := by
  unfold underB
  refine Ev.bind (host_spec (S b) (by rw [S_size]; omega)) (ev_ite (fun _ => Ev.bind (host_spec (S h) (by rw [S_size]; omega)) (ev_ite (fun _ => ?_) (fun _ => Ev.now _))) (fun _ => Ev.now _))
  rw [S_list, S_list]
  refine ev_ite (fun _ => Ev.now _) (fun hne => ?_)
  have e1 : Aside0 (wrap64 (((S h).size : Int) - ((S b).size : Int)) = (h.length : Int) - b.length) := ⟨by rw [S_size, S_size, w64 (by omega) (by omega)]⟩
  rw [e1.out]
  unfold underT
  by_cases c : b.length < h.length
  · rw [if_pos c]
    refine ev_pos (by omega) (ev_pos (by omega) (ev_pos (by rw [S_size]; omega) ?_))
    have e2 : ((h.length : Int) - b.length).toNat = h.length - b.length := by omega
    have e3 : Aside0 (wrap64 ((h.length : Int) - b.length - 1) = ((h.length - b.length - 1 : Nat) : Int)) := ⟨by rw [w64 (by omega) (by omega)]; omega⟩
    have hd := drop_at h (h.length - (1 + b.length)) (by omega)
    rw [show h.length - (1 + b.length) + 1 = h.length - b.length by omega] at hd
    rw [e2, S_ext, S_list, S_size, List.take_length, e3.out, hd]
    by_cases c2 : h.drop (h.length - b.length) = b
    · refine ev_pos c2 (ev_pos (by omega) (ev_pos (by omega) ?_))
      rw [S_bt _ _ (by omega)]
      have e4 : ((((h[h.length - b.length - 1]'(by omega)).toNat : Nat) : Int) == 46) = decide (h[h.length - (1 + b.length)]'(by omega) :: h.drop (h.length - b.length) = 46 :: b) := by
        rw [c2, Bool.eq_iff_iff, beq_iff_eq, u46, decide_eq_true_eq]
        simp only [List.cons.injEq, and_true, show h.length - b.length - 1 = h.length - (1 + b.length) by omega]
      rw [e4]
      exact Ev.now _
    · rw [decide_eq_false (fun e => c2 (List.cons.inj e).2)]
      exact ev_neg c2 (Ev.now _)
  · rw [if_neg c]
    exact ev_neg (by omega) (Ev.now _)
theorem pt_append (b : List UInt8) : (⟨#[46]⟩ : ByteArray) ++ S b = S (46 :: b) := by
  apply ByteArray.ext
  rw [ByteArray.data_append]
  simp [S]
theorem under_impl (b h : List UInt8) (hb : b.length ≤ 1048576) (hh : h.length ≤ 1048576) : Ev (fun k => impl_Under.f k (S b) (S h)) (underB b h) := by
  unfold underB
  refine Ev.bind (host_impl (S b) (by rw [S_size]; omega)) (ev_ite (fun _ => Ev.bind (host_impl (S h) (by rw [S_size]; omega)) (ev_ite (fun _ => ?_) (fun _ => Ev.now _))) (fun _ => Ev.now _))
  rw [S_list, S_list]
  refine ev_ite (fun _ => Ev.now _) (fun hne => ev_pos (by rw [S_size]; omega) ?_)
  rw [pt_append]
  refine ev_bindc (a := underT b h) ?_ (Ev.now _)
  unfold strings_HasSuffix.f stringslite_HasSuffix.f underT
  rw [S_size, S_size, List.length_cons]
  by_cases c : b.length < h.length
  · have e1 : Aside0 (wrap64 ((h.length : Int) - ((b.length + 1 : Nat) : Int)) = ((h.length - (1 + b.length) : Nat) : Int)) := ⟨by rw [w64 (by omega) (by omega)]; omega⟩
    rw [if_pos c, if_pos (by omega), e1.out, if_pos (by omega), if_pos (by omega), Int.toNat_natCast, S_ext, S_list, S_list, List.take_length, bd]
    rfl
  · rw [if_neg c, if_neg (by omega)]
    rfl
theorem FnExactUnder : laws_FnExactUnder.Pure := by
  intro s t _ _
  by_cases c0 : (s.size : Int) > 1048576
  · exact ev_k (ev_pos c0 (Ev.now _))
  by_cases c1 : (t.size : Int) > 1048576
  · exact ev_k (ev_neg c0 (ev_pos c1 (Ev.now _)))
  have h1 := under_spec s.data.toList t.data.toList (by rw [dl_size]; omega) (by rw [dl_size]; omega)
  have h2 := under_impl s.data.toList t.data.toList (by rw [dl_size]; omega) (by rw [dl_size]; omega)
  rw [S_data, S_data] at h1 h2
  exact ev_k (ev_neg c0 (ev_neg c1 (Ev.bind h1 (Ev.bind h2 (ev_neg (by simp) (Ev.now _))))))

end Go.Proofs.YthfaelbkdhhmdaaDoor.Pure
