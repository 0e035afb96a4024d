/- The program's ReadAddress returns what the reference's returns, for all arguments that the law lets in. -/
import Derived.Test.YthfaelbkdhhmdaaDoorGFnExactReadAddressx3
import Derived.Test.YthfaelbkdhhmdaaDoorBase
namespace Go.Proofs.YthfaelbkdhhmdaaDoor.Pure
open Go.RowKit Go.Proofs.YthfaelbkdhhmdaaDoor.GFnExactReadAddress Go.Proofs.YthfaelbkdhhmdaaDoorW.PrintWords Go.Proofs.YthfaelbkdhhmdaaDoorW.PrintLast Go.Proofs.YthfaelbkdhhmdaaDoor.Base
set_option linter.unusedVariables false
set_option linter.unusedSimpArgs false

def mI : Int → Nat → List Int
  | _, 0 => []
  | m, n + 1 => m :: mI (m + 1) n
theorem mI_length : ∀ (n : Nat) (m : Int), (mI m n).length = n
  | 0, _ => rfl
  | n + 1, m => by simp [mI, mI_length n]
theorem markI_ev {L : Nat → List Int → Int → Int → Option (Int × List Int)}
    (hL : ∀ k x0 x1 x5, L (k + 1) x0 x1 x5 = if x5 < (x0.length : Int) then (if 0 ≤ x5 then (L k (x0.set (x5 : Int).toNat x1) (wrap64 (x1 + 1)) (wrap64 (x5 + 1))) else none) else some (x1, x0)) :
    ∀ (rest pre : List Int) (m : Int), pre.length + rest.length ≤ 1099511627776 → 0 ≤ m → m + rest.length ≤ 1099511627776 → Ev (fun k => L k (pre ++ rest) m (pre.length : Int)) (m + rest.length, pre ++ mI m rest.length)
  | [], pre, m, _, _, _ => by
    refine Ev.step (fun k => hL _ _ _ _) (ev_neg (by simp) ?_)
    simpa [mI] using Ev.now _
  | a :: t, pre, m, h1, h2, h3 => by
    simp only [List.length_cons] at h1 h3
    have ih := markI_ev hL t (pre ++ [m]) (m + 1) (by simp; omega) (by omega) (by omega)
    refine Ev.step (fun k => hL _ _ _ _) (ev_pos (by simp; omega) (ev_pos (by omega) ?_))
    rw [w64 (x := m + 1) (by omega) (by omega), w64 (x := (pre.length : Int) + 1) (by omega) (by omega)]
    have e : (pre ++ a :: t).set (pre.length : Int).toNat m = pre ++ [m] ++ t := by
      rw [Int.toNat_natCast, List.set_append_right _ _ (Nat.le_refl _)]
      simp
    rw [e]
    have e2 : ((pre ++ [m]).length : Int) = (pre.length : Int) + 1 := by simp
    rw [e2] at ih
    have e3 : (m + ((a :: t).length : Int), pre ++ mI m (a :: t).length) = (m + 1 + (t.length : Int), pre ++ [m] ++ mI (m + 1) t.length) := by
      simp [mI]
      omega
    rw [e3]
    exact ih
theorem heldI_ev {H : Nat → List Int → Int → Int → Option Int}
    (hH : ∀ k x0 x1 x5, H (k + 1) x0 x1 x5 = if x5 < (x0.length : Int) then (if 0 ≤ x5 then (if (rd x0 x5) = x1 then (H k x0 (wrap64 (x1 + 1)) (wrap64 (x5 + 1))) else (some (-1))) else none) else some x1) :
    ∀ (n : Nat) (pre : List Int) (m : Int), pre.length + n ≤ 1099511627776 → 0 ≤ m → m + n ≤ 1099511627776 → Ev (fun k => H k (pre ++ mI m n) m (pre.length : Int)) (m + n)
  | 0, pre, m, _, _, _ => by
    refine Ev.step (fun k => hH _ _ _ _) (ev_neg (by simp [mI]) ?_)
    simpa using Ev.now _
  | n + 1, pre, m, h1, h2, h3 => by
    have ih := heldI_ev hH n (pre ++ [m]) (m + 1) (by simp; omega) (by omega) (by omega)
    refine Ev.step (fun k => hH _ _ _ _) (ev_pos (by simp [mI]; omega) (ev_pos (by omega) (ev_pos (by simp [rd, mI]) ?_)))
    rw [w64 (x := m + 1) (by omega) (by omega), w64 (x := (pre.length : Int) + 1) (by omega) (by omega)]
    have e2 : ((pre ++ [m]).length : Int) = (pre.length : Int) + 1 := by simp
    rw [e2, List.append_assoc, show [m] ++ mI (m + 1) n = mI m (n + 1) from rfl] at ih
    rw [show m + ((n + 1 : Nat) : Int) = m + 1 + (n : Int) by omega]
    exact ih
/-! ### strings as lists of bytes -/
def S (l : List UInt8) : ByteArray := ⟨l.toArray⟩
theorem S_data (s : ByteArray) : S s.data.toList = s := by unfold S; simp
theorem S_size (l : List UInt8) : (S l).size = l.length := by unfold S ByteArray.size; simp
theorem S_list (l : List UInt8) : (S l).toList = l := by rw [ByteArray.toList_eq]; unfold S; simp
theorem S_dataList (l : List UInt8) : (S l).data.toList = l := by unfold S; simp
theorem dl_size (s : ByteArray) : s.data.toList.length = s.size := by rw [Array.length_toList]; rfl
theorem S_bt (l : List UInt8) (i : Nat) (h : i < l.length) : bt (S l) (i : Int) = ((l[i].toNat : Nat) : Int) := by
  have hs : i < (S l).size := by rw [S_size]; exact h
  unfold bt
  rw [dif_pos (by simpa using hs)]
  simp [S, ByteArray.getElem_eq_getElem_data]
theorem S_ext (l : List UInt8) (a b : Nat) : (S l).extract a b = S ((l.take b).drop a) := by
  apply ByteArray.ext
  rw [ByteArray.data_extract]
  unfold S
  simp [List.take_drop]
  by_cases h : a ≤ b
  · rw [show a + (b - a) = b by omega]
  · rw [List.drop_eq_nil_of_le (by simp <;> omega), List.drop_eq_nil_of_le (by simp <;> omega)]
theorem bd (x y : List UInt8) : (x == y) = decide (x = y) := by rw [Bool.eq_iff_iff]; simp
theorem u46 (b : UInt8) : ((b.toNat : Nat) : Int) = 46 ↔ b = 46 := by
  constructor
  · intro h
    apply UInt8.toNat_inj.1
    show b.toNat = 46
    omega
  · rintro rfl
    rfl
/-! ### the parts of a text between points -/
def spl : List UInt8 → List (List UInt8)
  | [] => [[]]
  | b :: l => if b = 46 then [] :: spl l else (b :: (spl l).headD []) :: (spl l).tail
def att (p : List UInt8) (L : List (List UInt8)) : List (List UInt8) := (p ++ L.headD []) :: L.tail
theorem spl_ne (l : List UInt8) : spl l ≠ [] := by
  cases l with
  | nil => simp [spl]
  | cons b l => rw [spl]; split <;> simp
theorem att_nil (l : List UInt8) : att [] (spl l) = spl l := by
  have := spl_ne l
  unfold att
  cases h : spl l with
  | nil => exact absurd h this
  | cons a t => simp
theorem att_pt (p l : List UInt8) : att p (spl (46 :: l)) = p :: spl l := by simp [att, spl]
theorem att_other (p l : List UInt8) (b : UInt8) (h : ¬ b = 46) : att p (spl (b :: l)) = att (p ++ [b]) (spl l) := by simp [att, spl, h]
theorem spl_length (l : List UInt8) : (spl l).length = l.count 46 + 1 := by
  induction l with
  | nil => rfl
  | cons b l ih =>
    rw [spl]
    have := spl_ne l
    have hp : 0 < (spl l).length := List.length_pos_iff.2 this
    by_cases c : b = 46
    · subst c
      simp [ih]
    · simp only [if_neg c, List.length_cons, List.length_tail]
      rw [List.count_cons_of_ne (by simpa using c)]
      omega
theorem spl_none (l : List UInt8) (h : (46 : UInt8) ∉ l) : spl l = [l] := by
  induction l with
  | nil => rfl
  | cons b l ih =>
    have h1 : ¬ b = 46 := fun e => h (by simp [e])
    have h2 : (46 : UInt8) ∉ l := fun e => h (by simp [e])
    rw [spl, if_neg h1, ih h2]
    simp
theorem spl_some (a b : List UInt8) (h : (46 : UInt8) ∉ a) : spl (a ++ 46 :: b) = a :: spl b := by
  induction a with
  | nil => simp [spl]
  | cons x a ih =>
    have h1 : ¬ x = 46 := fun e => h (by simp [e])
    have h2 : (46 : UInt8) ∉ a := fun e => h (by simp [e])
    rw [List.cons_append, spl, if_neg h1, ih h2]
    simp
theorem parts_l0 (l : List UInt8) (hl : l.length ≤ 1048576) : ∀ (r pre p : List UInt8) (x5 : List ByteArray), l = pre ++ p ++ r → x5.length + r.length ≤ 2000000 →
    Ev (fun k => spec_l8Parts.l0 k (S l) 46 x5 (pre.length : Int) ((pre ++ p).length : Int)) (x5 ++ (att p (spl r)).map S) := by
  intro r
  induction r with
  | nil =>
    intro pre p x5 e hx
    rw [List.append_nil] at e
    subst e
    refine Ev.step (fun k => spec_l8Parts.l0.eq_2 _ _ _ _ _ _) (ev_neg (by rw [S_size]; omega) (ev_pos (by omega) (ev_pos (by rw [S_size]; simp <;> omega) (ev_pos (by simp at hx; omega) ?_))))
    rw [S_ext, S_size, List.take_length, Int.toNat_natCast, List.drop_left]
    simp only [att, spl, List.headD_cons, List.append_nil, List.tail_cons, List.map_cons, List.map_nil]
    exact Ev.now _
  | cons b r ih =>
    intro pre p x5 e hx
    subst e
    simp only [List.length_cons] at hx
    have hb : bt (S (pre ++ p ++ b :: r)) ((pre ++ p).length : Int) = ((b.toNat : Nat) : Int) := by
      rw [S_bt _ _ (by simp <;> omega)]
      simp
    have e1 : Aside0 (wrap64 (((pre ++ p).length : Int) + 1) = ((pre ++ p ++ [b]).length : Int)) := ⟨by simp at hl ⊢; rw [w64 (by omega) (by omega)]; omega⟩
    by_cases c : b = 46
    · subst c
      have := ih (pre ++ p ++ [46]) [] (x5 ++ [S p]) (by simp) (by simp <;> omega)
      rw [att_nil, List.append_nil] at this
      rw [att_pt]
      refine Ev.step (fun k => spec_l8Parts.l0.eq_2 _ _ _ _ _ _) (ev_pos (by rw [S_size]; simp <;> omega) (ev_pos (by omega) (ev_pos (by rw [hb]; rfl) (ev_pos (by omega) (ev_pos (by simp <;> omega) (ev_pos (by rw [S_size]; simp <;> omega) (ev_pos (by simp at hl; omega) ?_)))))))
      rw [e1.out, S_ext, Int.toNat_natCast, Int.toNat_natCast, List.take_left, List.drop_left]
      simpa using this
    · have := ih pre (p ++ [b]) x5 (by simp) (by omega)
      rw [att_other _ _ _ c]
      refine Ev.step (fun k => spec_l8Parts.l0.eq_2 _ _ _ _ _ _) (ev_pos (by rw [S_size]; simp <;> omega) (ev_pos (by omega) (ev_neg (by rw [hb, u46]; exact c) ?_)))
      rw [e1.out]
      rw [← List.append_assoc] at this
      exact this
def prt (s : ByteArray) : List ByteArray := (spl s.data.toList).map S
theorem parts_ev (s : ByteArray) (hs : s.size ≤ 1048576) : Ev (fun k => spec_l8Parts.f k s 46) (prt s) := by
  have hl : s.data.toList.length = s.size := dl_size s
  have := parts_l0 s.data.toList (by omega) s.data.toList [] [] [] rfl (by simp at hl ⊢; omega)
  rw [att_nil, S_data] at this
  exact this
/-! ### the library's splitting -/
theorem ix_none (l : List UInt8) (h : (46 : UInt8) ∉ l) : Lib.indexByte l 46 = -1 := by
  induction l with
  | nil => rfl
  | cons b l ih =>
    have h1 : ¬ b = 46 := fun e => h (by simp [e])
    have h2 : (46 : UInt8) ∉ l := fun e => h (by simp [e])
    rw [Lib.indexByte, if_neg (by simpa using h1), ih h2]
    rfl
theorem ix_some (a b : List UInt8) (h : (46 : UInt8) ∉ a) : Lib.indexByte (a ++ 46 :: b) 46 = (a.length : Int) := by
  induction a with
  | nil => simp [Lib.indexByte]
  | cons x a ih =>
    have h1 : ¬ x = 46 := fun e => h (by simp [e])
    have h2 : (46 : UInt8) ∉ a := fun e => h (by simp [e])
    rw [List.cons_append, Lib.indexByte, if_neg (by simpa using h1), ih h2, if_neg (by simp <;> omega)]
    simp
theorem index_pt (s : ByteArray) : Hand.stringslite_Index.f s (⟨#[46]⟩ : ByteArray) = some (Lib.indexByte s.data.toList 46) := rfl
theorem first_pt (l : List UInt8) : (46 : UInt8) ∉ l ∨ ∃ a b, l = a ++ 46 :: b ∧ (46 : UInt8) ∉ a := by
  by_cases h : (46 : UInt8) ∈ l
  · obtain ⟨a, b, e, h2⟩ := List.eq_append_cons_of_mem h
    exact .inr ⟨a, b, e, h2⟩
  · exact .inl h
def splN : Nat → List UInt8 → List (List UInt8)
  | 0, l => [l]
  | n + 1, l => if (46 : UInt8) ∈ l then l.takeWhile (fun x => x != 46) :: splN n ((l.dropWhile (fun x => x != 46)).drop 1) else [l]
theorem splN_some (n : Nat) (a b : List UInt8) (h : (46 : UInt8) ∉ a) : splN (n + 1) (a ++ 46 :: b) = a :: splN n b := by
  have h1 : ∀ x ∈ a, (x != 46) = true := fun x hx => by
    simp only [bne_iff_ne, ne_eq]
    rintro rfl
    exact h hx
  rw [splN, if_pos (by simp), List.takeWhile_append_of_pos h1, List.dropWhile_append_of_pos h1]
  simp
theorem splN_none (n : Nat) (l : List UInt8) (h : (46 : UInt8) ∉ l) : splN n l = [l] := by
  cases n with
  | zero => rfl
  | succ n => rw [splN, if_neg h]
theorem splN_all : ∀ (n : Nat) (l : List UInt8), l.count 46 ≤ n → splN n l = spl l := by
  intro n
  induction n with
  | zero =>
    intro l h
    have : (46 : UInt8) ∉ l := List.count_eq_zero.1 (by omega)
    rw [spl_none l this]
    rfl
  | succ n ih =>
    intro l h
    rcases first_pt l with h1 | ⟨a, b, rfl, h2⟩
    · rw [splN_none _ _ h1, spl_none l h1]
    · rw [splN_some _ _ _ h2, spl_some _ _ h2, ih]
      rw [List.count_append, List.count_cons_self] at h
      omega
theorem gen_l0 (m : Nat) (hm : m ≤ 1048577) : ∀ (j : Nat) (l : List UInt8) (done : List ByteArray), done.length + j = m → l.length ≤ 1048576 →
    Ev (fun k => strings_genSplit.l0 k (S l) (⟨#[46]⟩ : ByteArray) 0 (m : Int) (done ++ List.replicate (j + 1) (⟨#[]⟩ : ByteArray)) (done.length : Int)) (done ++ (splN j l).map S) := by
  intro j
  induction j with
  | zero =>
    intro l done hj hl
    have e1 : Aside0 (wrap64 ((done.length : Int) + 1) = ((done.length + 1 : Nat) : Int)) := ⟨by rw [w64 (by omega) (by omega)]; rfl⟩
    refine Ev.step (fun k => strings_genSplit.l0.eq_2 _ _ _ _ _ _ _) (ev_neg (by omega) (ev_pos (by omega) (ev_pos (by simp <;> omega) ?_)))
    rw [e1.out]
    refine ev_pos (by omega) (ev_pos (by simp) ?_)
    rw [Int.toNat_natCast, Int.toNat_natCast]
    have : ((done ++ List.replicate (0 + 1) (⟨#[]⟩ : ByteArray)).set done.length (S l)).take (done.length + 1) = done ++ (splN 0 l).map S := by
      rw [List.set_append_right _ _ (Nat.le_refl _), Nat.sub_self]
      simp only [List.replicate_succ, List.replicate_zero, List.set_cons_zero, splN, List.map_cons, List.map_nil]
      exact List.take_of_length_le (by simp)
    rw [this]
    exact Ev.now _
  | succ j ih =>
    intro l done hj hl
    have e1 : Aside0 (wrap64 ((done.length : Int) + 1) = ((done.length + 1 : Nat) : Int)) := ⟨by rw [w64 (by omega) (by omega)]; rfl⟩
    rcases first_pt l with h1 | ⟨a, b, rfl, h2⟩
    · rw [splN_none _ _ h1]
      refine Ev.step (fun k => strings_genSplit.l0.eq_2 _ _ _ _ _ _ _) (ev_pos (by omega) (ev_bindc (a := -1) ?_ (ev_pos (by omega) (ev_pos (by omega) (ev_pos (by simp <;> omega) ?_)))))
      · unfold strings_Index.f
        rw [index_pt, S_dataList, ix_none l h1]
        rfl
      · rw [e1.out]
        refine ev_pos (by omega) (ev_pos (by simp <;> omega) ?_)
        rw [Int.toNat_natCast, Int.toNat_natCast]
        have : ((done ++ List.replicate (j + 1 + 1) (⟨#[]⟩ : ByteArray)).set done.length (S l)).take (done.length + 1) = done ++ [l].map S := by
          rw [List.set_append_right _ _ (Nat.le_refl _), Nat.sub_self, List.replicate_succ, List.set_cons_zero]
          rw [show ∀ X : List ByteArray, done ++ S l :: X = (done ++ [S l]) ++ X from fun X => by simp, show done.length + 1 = (done ++ [S l]).length by simp, List.take_left]
          rfl
        rw [this]
        exact Ev.now _
    · rw [splN_some _ _ _ h2]
      simp only [List.length_append, List.length_cons] at hl
      have := ih b (done ++ [S a]) (by simp <;> omega) (by omega)
      refine Ev.step (fun k => strings_genSplit.l0.eq_2 _ _ _ _ _ _ _) (ev_pos (by omega) (ev_bindc (a := (a.length : Int)) ?_ ?_))
      · unfold strings_Index.f
        rw [index_pt, S_dataList, ix_some a b h2]
        rfl
      · have e2 : Aside0 (wrap64 ((a.length : Int) + 0) = (a.length : Int)) := ⟨by rw [w64 (by omega) (by omega)]; omega⟩
        have e3 : Aside0 (wrap64 ((a.length : Int) + (((⟨#[46]⟩ : ByteArray).size : Nat) : Int)) = ((a.length + 1 : Nat) : Int)) := ⟨by show wrap64 ((a.length : Int) + 1) = _; rw [w64 (by omega) (by omega)]; rfl⟩
        refine ev_neg (by omega) ?_
        simp only [e2.out, e3.out, e1.out]
        refine ev_pos (by omega) (ev_pos (by rw [S_size]; simp <;> omega) (ev_pos (by omega) (ev_pos (by simp <;> omega) (ev_pos (by omega) (ev_pos (by rw [S_size]; simp <;> omega) ?_)))))
        rw [Int.toNat_natCast, Int.toNat_natCast, Int.toNat_natCast, S_ext, S_ext, S_size, List.take_length]
        have q1 : (a ++ 46 :: b).drop (a.length + 1) = b := by
          rw [show a ++ 46 :: b = (a ++ [46]) ++ b by simp, show a.length + 1 = (a ++ [46]).length by simp, List.drop_left]
        have q2 : ((a ++ 46 :: b).take a.length).drop 0 = a := by rw [List.take_left]; rfl
        have q3 : (done ++ List.replicate (j + 1 + 1) (⟨#[]⟩ : ByteArray)).set done.length (S a) = (done ++ [S a]) ++ List.replicate (j + 1) (⟨#[]⟩ : ByteArray) := by
          rw [List.set_append_right _ _ (Nat.le_refl _), Nat.sub_self]
          simp [List.replicate_succ]
        rw [q1, q2, q3]
        simp only [List.length_append, List.length_cons, List.length_nil, List.append_assoc, List.cons_append, List.nil_append, List.map_cons] at this ⊢
        exact this
theorem l1In_eq (x a b : Int) : spec_l1In.f x a b = some (decide (a ≤ x ∧ x ≤ b)) := by
  unfold spec_l1In.f
  by_cases h : x ≥ a
  · rw [if_pos h]; simp [show a ≤ x from h]
  · rw [if_neg h]; simp [show ¬ a ≤ x from h]
theorem within_eq (x a b : Int) : impl_within.f x a b = some (decide (a ≤ x ∧ x ≤ b)) := l1In_eq x a b
def dgB (s : ByteArray) : Bool := (List.range s.size).all (fun i => decide (48 ≤ bt s (i : Int) ∧ bt s (i : Int) ≤ 57)) && decide ((s.size : Int) > 0)
theorem digits_ev (s : ByteArray) (hs : s.size ≤ 1048576) : Ev (fun k => spec_l8Digits.f k s) (dgB s) := by
  refine all_ev (L := fun k i => spec_l8Digits.l0 k s i) s.size ?_ ?_ ?_
  · intro i hi hp r h
    have hb := bt_range s (i : Int)
    refine Ev.step (fun k => spec_l8Digits.l0.eq_2 _ _ _) (ev_pos (by omega) (ev_pos (by omega) (ev_bindc (l1In_eq _ _ _) (ev_pos (by rw [w64 (by omega) (by omega)]; exact hp) ?_))))
    rw [w64 (by omega) (by omega)]; exact h
  · intro i hi hp
    have hb := bt_range s (i : Int)
    exact Ev.step (fun k => spec_l8Digits.l0.eq_2 _ _ _) (ev_pos (by omega) (ev_pos (by omega) (ev_bindc (l1In_eq _ _ _) (ev_neg (by rw [w64 (by omega) (by omega), hp]; simp) (Ev.now _)))))
  · exact Ev.step (fun k => spec_l8Digits.l0.eq_2 _ _ _) (ev_neg (by omega) (Ev.now _))
/-! ### hosts -/
/-! ### words of an address -/
def vl (l : List UInt8) : Int := l.foldl (fun n b => 10 * n + ((b.toNat : Int) - 48)) 0
def dgL (l : List UInt8) : Bool := l.all (fun b => decide (48 ≤ b.toNat ∧ b.toNat ≤ 57)) && decide (0 < l.length)
def swL (l : List UInt8) : Option Int := if dgL l = true then (if 3 < l.length then none else (if 1 < l.length ∧ l.head? = some 48 then none else (if 255 < vl l then none else some (vl l)))) else none
def isOk (z : Lib.NumEnd Int) (v : Int) : Bool := match z with | .ok u => u == v | _ => false
theorem isOk_eq {z : Lib.NumEnd Int} {v : Int} (h : isOk z v = true) : z = .ok v := by
  cases z with
  | ok u => rw [eq_of_beq (show (u == v) = true from h)]
  | «syntax» => cases h
  | range => cases h
set_option maxRecDepth 100000 in
theorem tells : (List.range 256).all (fun v => decide (swL (Lib.itoa (v : Int)) = some (v : Int)) && isOk (Lib.atoiAll (Lib.itoa (v : Int))) (v : Int) && decide ((Lib.itoa (v : Int)).length ≤ 3)) = true := by decide +kernel
theorem tell3 (v : Int) (h0 : 0 ≤ v) (h1 : v ≤ 255) : swL (Lib.itoa v) = some v ∧ Lib.atoiAll (Lib.itoa v) = .ok v ∧ (Lib.itoa v).length ≤ 3 := by
  have h := List.all_eq_true.1 tells v.toNat (List.mem_range.2 (by omega))
  rw [show ((v.toNat : Nat) : Int) = v by omega, Bool.and_eq_true, Bool.and_eq_true] at h
  exact ⟨of_decide_eq_true h.1.1, isOk_eq h.1.2, of_decide_eq_true h.2⟩
def good (l : List UInt8) : Bool := match swL l with | some v => decide (0 ≤ v ∧ v ≤ 255) && decide (Lib.itoa v = l) | none => true
def dig (i : Nat) : UInt8 := UInt8.ofNat (48 + i)
set_option maxRecDepth 100000 in
theorem goods1 : (List.range 10).all (fun i => good [dig i]) = true := by decide +kernel
set_option maxRecDepth 100000 in
theorem goods2 : (List.range 10).all (fun i => (List.range 10).all (fun j => good [dig i, dig j])) = true := by decide +kernel
set_option maxRecDepth 100000 in
theorem goods3 : (List.range 10).all (fun i => (List.range 10).all (fun j => (List.range 10).all (fun k => good [dig i, dig j, dig k]))) = true := by decide +kernel
theorem dig_of (b : UInt8) (h : 48 ≤ b.toNat ∧ b.toNat ≤ 57) : ∃ i, i < 10 ∧ b = dig i := by
  refine ⟨b.toNat - 48, by omega, ?_⟩
  apply UInt8.toNat_inj.1
  unfold dig
  rw [UInt8.toNat_ofNat']
  omega
theorem good_of (l : List UInt8) : good l = true := by
  cases c : dgL l with
  | false =>
    unfold good swL
    rw [c]
    rfl
  | true =>
    unfold dgL at c
    rw [Bool.and_eq_true, List.all_eq_true] at c
    obtain ⟨c1, c2⟩ := c
    have c2 := of_decide_eq_true c2
    match l, c1, c2 with
    | [a], c1, _ =>
      obtain ⟨i, hi, rfl⟩ := dig_of a (of_decide_eq_true (c1 a (by simp)))
      exact List.all_eq_true.1 goods1 i (List.mem_range.2 hi)
    | [a, b], c1, _ =>
      obtain ⟨i, hi, rfl⟩ := dig_of a (of_decide_eq_true (c1 a (by simp)))
      obtain ⟨j, hj, rfl⟩ := dig_of b (of_decide_eq_true (c1 b (by simp)))
      exact List.all_eq_true.1 (List.all_eq_true.1 goods2 i (List.mem_range.2 hi)) j (List.mem_range.2 hj)
    | [a, b, c], c1, _ =>
      obtain ⟨i, hi, rfl⟩ := dig_of a (of_decide_eq_true (c1 a (by simp)))
      obtain ⟨j, hj, rfl⟩ := dig_of b (of_decide_eq_true (c1 b (by simp)))
      obtain ⟨k, hk, rfl⟩ := dig_of c (of_decide_eq_true (c1 c (by simp)))
      exact List.all_eq_true.1 (List.all_eq_true.1 (List.all_eq_true.1 goods3 i (List.mem_range.2 hi)) j (List.mem_range.2 hj)) k (List.mem_range.2 hk)
    | a :: b :: c :: d :: r, c1, _ =>
      unfold good swL
      have : (if dgL (a :: b :: c :: d :: r) = true then (if 3 < (a :: b :: c :: d :: r).length then none else (if 1 < (a :: b :: c :: d :: r).length ∧ (a :: b :: c :: d :: r).head? = some 48 then none else (if 255 < vl (a :: b :: c :: d :: r) then none else some (vl (a :: b :: c :: d :: r))))) else none) = none := by
        split
        · rw [if_pos (by simp)]
        · rfl
      rw [this]
theorem sw_tell (l : List UInt8) (v : Int) (h : swL l = some v) : (0 ≤ v ∧ v ≤ 255) ∧ Lib.itoa v = l := by
  have g := good_of l
  unfold good at g
  rw [h] at g
  rw [Bool.and_eq_true] at g
  exact ⟨of_decide_eq_true g.1, of_decide_eq_true g.2⟩
theorem S_inj {a b : List UInt8} (h : S a = S b) : a = b := by
  have := congrArg (fun s => s.data.toList) h
  simpa [S] using this
/-! ### the two loops over the words -/
def run : List (List UInt8) → List Int → List Int × Bool
  | [], acc => if (acc.length : Int) = 4 then (acc, true) else ([], false)
  | t :: r, acc => match swL t with
    | some v => run r (acc ++ [v])
    | none => ([], false)
theorem run_len : ∀ (X : List (List UInt8)) (acc : List Int), acc.length + X.length ≠ 4 → run X acc = ([], false)
  | [], acc, h => by
    unfold run
    rw [if_neg (by simp at h; omega)]
  | t :: r, acc, h => by
    unfold run
    cases c : swL t with
    | none => rfl
    | some v => exact run_len r (acc ++ [v]) (by simp at h ⊢; omega)
theorem run_all : ∀ (X : List (List UInt8)) (acc : List Int), (∀ x ∈ X, x.length ≤ 3) ∨ run X acc = ([], false)
  | [], _ => .inl (fun _ h => by cases h)
  | t :: r, acc => by
    unfold run
    cases c : swL t with
    | none => exact .inr rfl
    | some v =>
      rcases run_all r (acc ++ [v]) with h | h
      · refine .inl fun x hx => ?_
        rcases List.mem_cons.1 hx with rfl | hx
        · obtain ⟨h1, h2⟩ := sw_tell x v c
          rw [← h2]
          exact (tell3 v h1.1 h1.2).2.2
        · exact h x hx
      · exact .inr h
theorem spl_bound : ∀ (n : Nat) (l : List UInt8), l.length ≤ n → (∀ x ∈ spl l, x.length ≤ 3) → l.length + 1 ≤ 4 * (spl l).length := by
  intro n
  induction n with
  | zero =>
    intro l hl _
    have := spl_length l
    omega
  | succ n ih =>
    intro l hl h
    rcases first_pt l with h1 | ⟨a, b, rfl, h2⟩
    · rw [spl_none l h1] at h ⊢
      have := h l (by simp)
      simp
      omega
    · rw [spl_some _ _ h2] at h ⊢
      have ha := h a (by simp)
      have hb := ih b (by simp at hl; omega) (fun x hx => h x (by simp [hx]))
      simp at hb ⊢
      omega
theorem splN_len : ∀ (n : Nat) (l : List UInt8), n ≤ l.count 46 → (splN n l).length = n + 1 := by
  intro n
  induction n with
  | zero => intro l _; rfl
  | succ n ih =>
    intro l h
    rcases first_pt l with h1 | ⟨a, b, rfl, h2⟩
    · have := List.count_eq_zero.2 h1
      omega
    · rw [splN_some _ _ _ h2]
      have hc : b.count 46 = (a ++ 46 :: b).count 46 - 1 := by
        rw [List.count_append, List.count_cons_self, List.count_eq_zero.2 h2]
        omega
      rw [List.length_cons, ih b (by omega)]
theorem splN_small : ∀ (n : Nat) (l : List UInt8), ∀ x ∈ splN n l, x.length ≤ l.length := by
  intro n
  induction n with
  | zero =>
    intro l x hx
    have hx : x ∈ [l] := hx
    rw [List.mem_singleton.1 hx]
    exact Nat.le_refl _
  | succ n ih =>
    intro l x hx
    rcases first_pt l with h1 | ⟨a, b, rfl, h2⟩
    · rw [splN_none _ _ h1] at hx
      rw [List.mem_singleton.1 hx]
      exact Nat.le_refl _
    · rw [splN_some _ _ _ h2] at hx
      rcases List.mem_cons.1 hx with rfl | hx
      · simp
      · have := ih b x hx
        simp
        omega
theorem spl_small : ∀ (l : List UInt8), ∀ x ∈ spl l, x.length ≤ l.length := fun l x hx => splN_small (l.count 46) l x (by rw [splN_all _ _ (Nat.le_refl _)]; exact hx)
theorem splN_le (n : Nat) (l : List UInt8) : (splN n l).length ≤ n + 1 := by
  induction n generalizing l with
  | zero => exact Nat.le_refl _
  | succ n ih =>
    rcases first_pt l with h1 | ⟨a, b, rfl, h2⟩
    · rw [splN_none _ _ h1]
      simp
    · rw [splN_some _ _ _ h2]
      have := ih b
      simp
      omega
theorem dg_eq (l : List UInt8) : dgB (S l) = dgL l := by
  have e : ((S l).size : Int) > 0 ↔ 0 < l.length := by rw [S_size]; omega
  unfold dgB dgL
  rw [Bool.eq_iff_iff, Bool.and_eq_true, Bool.and_eq_true, decide_eq_true_eq, decide_eq_true_eq, e, List.all_eq_true, List.all_eq_true]
  refine and_congr_left fun _ => ⟨fun h b hb => ?_, fun h i hi => ?_⟩
  · obtain ⟨i, hi, rfl⟩ := List.getElem_of_mem hb
    have := of_decide_eq_true (h i (List.mem_range.2 (by rw [S_size]; exact hi)))
    rw [S_bt l i hi] at this
    exact decide_eq_true (by omega)
  · have hi : i < l.length := by have := List.mem_range.1 hi; rwa [S_size] at this
    have := of_decide_eq_true (h l[i] (List.getElem_mem hi))
    rw [S_bt l i hi]
    exact decide_eq_true (by omega)
theorem rd_at (pre r : List (List UInt8)) (t : List UInt8) : rdOf ByteArray.empty ((pre ++ t :: r).map S) ((pre.length : Nat) : Int) = S t := by
  simp [rdOf]
theorem vl_take (l : List UInt8) (i : Nat) (h : i < l.length) : vl (l.take (i + 1)) = 10 * vl (l.take i) + ((l[i].toNat : Int) - 48) := by
  unfold vl
  rw [List.take_succ_eq_append_getElem h, List.foldl_append]
  rfl
theorem vl_bound (l : List UInt8) (h : ∀ b ∈ l, 48 ≤ b.toNat ∧ b.toNat ≤ 57) (h3 : l.length ≤ 3) : ∀ i, i ≤ l.length → 0 ≤ vl (l.take i) ∧ vl (l.take i) < 10 ^ i := by
  intro i
  induction i with
  | zero => intro _; simp [vl]
  | succ i ih =>
    intro hi
    have a := ih (by omega)
    have b := h l[i] (List.getElem_mem (by omega))
    rw [vl_take l i (by omega), Int.pow_succ]
    omega
theorem pow3 (i : Nat) (h : i ≤ 3) : (10 : Int) ^ i ≤ 1000 := by
  match i, h with
  | 0, _ => decide
  | 1, _ => decide
  | 2, _ => decide
  | 3, _ => decide
theorem spec_val (X : List ByteArray) (acc : List Int) (x7 : Int) (l : List UInt8) (h : ∀ b ∈ l, 48 ≤ b.toNat ∧ b.toNat ≤ 57) (h3 : l.length ≤ 3) (z : List Int × Bool) (hacc : acc.length ≤ 2000000)
    (hbig : 255 < vl l → z = ([], false)) (hok : vl l ≤ 255 → Ev (fun k => spec_ReadAddress.l0 k [] X (acc ++ [vl l]) (wrap64 (x7 + 1))) z) :
    Ev (fun k => spec_ReadAddress.l1 k [] X acc x7 (S l) 0 0) z := by
  have key : ∀ d i : Nat, i + d = l.length → Ev (fun k => spec_ReadAddress.l1 k [] X acc x7 (S l) (vl (l.take i)) (i : Int)) z := by
    intro d
    induction d with
    | zero =>
      intro i hi
      refine Ev.step (fun _ => spec_ReadAddress.l1.eq_2 _ _ _ _ _ _ _ _) (ev_neg (by rw [S_size]; omega) ?_)
      rw [List.take_of_length_le (by omega)]
      by_cases c : vl l > 255
      · rw [hbig c]
        exact ev_pos c (Ev.now _)
      · exact ev_neg c (ev_pos (by omega) (hok (by omega)))
    | succ d ih =>
      intro i hi
      have b := h l[i] (List.getElem_mem (by omega))
      have v := vl_bound l h h3 i (by omega)
      have p := pow3 i (by omega)
      refine Ev.step (fun _ => spec_ReadAddress.l1.eq_2 _ _ _ _ _ _ _ _) (ev_pos (by rw [S_size]; omega) (ev_pos (by omega) ?_))
      rw [S_bt l i (by omega), w64 (x := (i : Int) + 1) (by omega) (by omega), w64 (x := 10 * vl (l.take i)) (by omega) (by omega), w64 (by omega) (by omega)]
      have e := ih (i + 1) (by omega)
      rw [vl_take l i (by omega)] at e
      rw [show ((l[i].toNat : Int) - 48) % 256 = (l[i].toNat : Int) - 48 by omega]
      exact e
  exact key l.length 0 (by omega)
theorem dg_mem {l : List UInt8} (h : dgL l = true) : (∀ b ∈ l, 48 ≤ b.toNat ∧ b.toNat ≤ 57) ∧ 0 < l.length := by
  unfold dgL at h
  rw [Bool.and_eq_true, List.all_eq_true] at h
  exact ⟨fun b hb => of_decide_eq_true (h.1 b hb), of_decide_eq_true h.2⟩
theorem head48 (l : List UInt8) (h : 0 < l.length) : (bt (S l) 0 == 48) = decide (l.head? = some 48) := by
  cases l with
  | nil => cases h
  | cons a r =>
    have := S_bt (a :: r) 0 (by simp)
    rw [show ((0 : Nat) : Int) = 0 from rfl] at this
    rw [this]
    rw [Bool.eq_iff_iff, beq_iff_eq, decide_eq_true_eq]
    simp only [List.getElem_cons_zero, List.head?_cons, Option.some.injEq]
    constructor
    · intro h
      apply UInt8.toNat_inj.1
      show a.toNat = 48
      omega
    · rintro rfl
      rfl
theorem spec_run : ∀ (r pre : List (List UInt8)) (acc : List Int), pre.length + r.length ≤ 1048577 → acc.length ≤ pre.length → (∀ t ∈ r, t.length ≤ 1048576) →
    Ev (fun k => spec_ReadAddress.l0 k [] ((pre ++ r).map S) acc ((pre.length : Nat) : Int)) (run r acc)
  | [], pre, acc, h1, h2, _ => by
    refine Ev.step (fun _ => spec_ReadAddress.l0.eq_2 _ _ _ _ _) (ev_neg (by simp) ?_)
    unfold run
    exact ev_ite (fun _ => Ev.now _) (fun _ => Ev.now _)
  | t :: r, pre, acc, h1, h2, h3 => by
    have ht := h3 t (by simp)
    simp only [List.length_cons] at h1
    refine Ev.step (fun _ => spec_ReadAddress.l0.eq_2 _ _ _ _ _) (ev_pos (by simp <;> omega) (ev_pos (by omega) ?_))
    rw [rd_at]
    refine Ev.bind (digits_ev (S t) (by rw [S_size]; exact ht)) ?_
    have no : ∀ z, run (t :: r) acc = z → z = ([], false) → Ev (fun k => spec_ReadAddress.j1 k [] ((pre ++ t :: r).map S) acc ((pre.length : Nat) : Int) (S t) true) (run (t :: r) acc) := by
      intro z hz h
      rw [hz, h]
      exact Ev.step (fun _ => spec_ReadAddress.j1.eq_2 _ _ _ _ _ _ _) (ev_pos rfl (Ev.now _))
    rw [dg_eq]
    cases c : dgL t with
    | false => exact ev_neg (by simp) (no _ rfl (by unfold run swL; rw [c]; rfl))
    | true =>
      obtain ⟨m1, m2⟩ := dg_mem c
      refine ev_pos rfl ?_
      by_cases c3 : ((S t).size : Int) > 3
      · refine ev_pos c3 (no _ rfl ?_)
        have : 3 < t.length := by rw [S_size] at c3; omega
        unfold run swL
        rw [if_pos c, if_pos this]
      · have l3 : t.length ≤ 3 := by rw [S_size] at c3; omega
        refine ev_neg c3 ?_
        have yes : ¬ (1 < t.length ∧ t.head? = some 48) → Ev (fun k => spec_ReadAddress.j1 k [] ((pre ++ t :: r).map S) acc ((pre.length : Nat) : Int) (S t) false) (run (t :: r) acc) := by
          intro hh
          refine Ev.step (fun _ => spec_ReadAddress.j1.eq_2 _ _ _ _ _ _ _) (ev_neg (by simp) (spec_val _ _ _ t m1 l3 _ (by omega) ?_ ?_))
          · intro hv
            unfold run swL
            rw [if_pos c, if_neg (by omega), if_neg hh, if_pos hv]
          · intro hv
            have e : run (t :: r) acc = run r (acc ++ [vl t]) := by
              have es : swL t = some (vl t) := by
                unfold swL
                rw [if_pos c, if_neg (by omega), if_neg hh, if_neg (by omega)]
              simp only [run, es]
            rw [e, w64 (by omega) (by omega)]
            have ih := spec_run r (pre ++ [t]) (acc ++ [vl t]) (by simp; omega) (by simp; omega) (fun x hx => h3 x (by simp [hx]))
            rw [List.append_assoc, show [t] ++ r = t :: r from rfl, show (((pre ++ [t]).length : Nat) : Int) = (pre.length : Int) + 1 by simp] at ih
            exact ih
        by_cases c1 : ((S t).size : Int) > 1
        · have l1 : 1 < t.length := by rw [S_size] at c1; omega
          refine ev_pos c1 (ev_pos (by omega) ?_)
          rw [head48 t m2]
          by_cases ch : t.head? = some 48
          · rw [decide_eq_true ch]
            exact no _ rfl (by unfold run swL; rw [if_pos c, if_neg (by omega), if_pos ⟨l1, ch⟩])
          · rw [decide_eq_false ch]
            exact yes (fun h => ch h.2)
        · exact ev_neg c1 (yes (fun h => by rw [S_size] at c1; omega))
theorem impl_run : ∀ (r pre : List (List UInt8)) (acc : List Int), pre.length + r.length ≤ 1048577 → acc.length ≤ pre.length → (∀ t ∈ r, t.length ≤ 1048576) →
    Ev (fun k => impl_ReadAddress.l0 k acc ((pre ++ r).map S) (((pre ++ r).map S).length : Int) ((pre.length : Nat) : Int)) (run r acc)
  | [], pre, acc, h1, h2, _ => by
    refine Ev.step (fun _ => impl_ReadAddress.l0.eq_2 _ _ _ _ _) (ev_neg (by simp) ?_)
    unfold run
    exact ev_ite (fun _ => Ev.now _) (fun _ => Ev.now _)
  | t :: r, pre, acc, h1, h2, h3 => by
    have ht := h3 t (by simp)
    simp only [List.length_cons] at h1
    refine Ev.step (fun _ => impl_ReadAddress.l0.eq_2 _ _ _ _ _) (ev_pos (by simp <;> omega) (ev_pos (by omega) (ev_pos (by simp <;> omega) ?_)))
    rw [rd_at]
    have ea : Hand.strconv_Atoi.f (S t) = (match Lib.atoiAll t with | .ok v => some (v, none) | .syntax => some (0, some 0) | .range => some (Lib.atoiSat t, some 0)) := by
      unfold Hand.strconv_Atoi.f
      rw [if_pos (by rw [S_size]; omega), S_dataList]
      rfl
    rw [ea]
    have none_of : (∀ v, swL t = some v → Lib.atoiAll t = .ok v ∧ (0 ≤ v ∧ v ≤ 255) ∧ Lib.itoa v = t) := by
      intro v hv
      obtain ⟨a, b⟩ := sw_tell t v hv
      refine ⟨?_, a, b⟩
      rw [← b]
      exact (tell3 v a.1 a.2).2.1
    cases q : Lib.atoiAll t with
    | «syntax» =>
      have hn : swL t = none := by
        cases c : swL t with
        | none => rfl
        | some v => rw [(none_of v c).1] at q; cases q
      simp only [run, hn]
      exact ev_bindc rfl (ev_neg (by simp) (Ev.now _))
    | range =>
      have hn : swL t = none := by
        cases c : swL t with
        | none => rfl
        | some v => rw [(none_of v c).1] at q; cases q
      simp only [run, hn]
      exact ev_bindc rfl (ev_neg (by simp) (Ev.now _))
    | ok v =>
      refine ev_bindc rfl (ev_pos rfl (ev_bindc (within_eq _ _ _) ?_))
      by_cases c : 0 ≤ v ∧ v ≤ 255
      · rw [decide_eq_true c]
        refine ev_pos rfl (ev_bindc (show Hand.strconv_Itoa.f v = some (S (Lib.itoa v)) by unfold Hand.strconv_Itoa.f; rw [if_pos c.1, if_pos c.2]; rfl) ?_)
        rw [S_list, S_list]
        by_cases d : Lib.itoa v = t
        · have es : swL t = some v := by rw [← d]; exact (tell3 v c.1 c.2).1
          refine ev_pos d (ev_pos (by omega) ?_)
          simp only [run, es]
          rw [w64 (by omega) (by omega)]
          have ih := impl_run r (pre ++ [t]) (acc ++ [v]) (by simp; omega) (by simp; omega) (fun x hx => h3 x (by simp [hx]))
          rw [List.append_assoc, show [t] ++ r = t :: r from rfl, show (((pre ++ [t]).length : Nat) : Int) = (pre.length : Int) + 1 by simp] at ih
          exact ih
        · have hn : swL t = none := by
            cases e : swL t with
            | none => rfl
            | some u =>
              obtain ⟨a, _, b⟩ := none_of u e
              rw [q] at a
              cases a
              exact absurd b d
          simp only [run, hn]
          exact ev_neg d (Ev.now _)
      · have hn : swL t = none := by
          cases e : swL t with
          | none => rfl
          | some u =>
            obtain ⟨a, b, _⟩ := none_of u e
            rw [q] at a
            cases a
            exact absurd b c
        simp only [run, hn]
        rw [decide_eq_false c]
        exact ev_neg (by simp) (Ev.now _)
theorem splitN_ev (s : ByteArray) (hs : s.size ≤ 1048576) : ∃ m, m = min 4 s.size ∧ Ev (fun k => strings_SplitN.f k s (⟨#[46]⟩ : ByteArray) 5) ((splN m s.data.toList).map S) := by
  have hl : s.data.toList.length = s.size := dl_size s
  refine ⟨_, rfl, Ev.bind (a := (splN (min 4 s.size) s.data.toList).map S) (ev_neg (by omega) (ev_neg (by rw [ByteArray.toList_eq]; simp) (ev_neg (by omega) ?_))) (Ev.now _)⟩
  have e2 : Aside0 (wrap64 ((s.size : Int) + 1) = ((s.size + 1 : Nat) : Int)) := ⟨by rw [w64 (by omega) (by omega)]; rfl⟩
  have e3 : Aside0 (mn 5 ((s.size + 1 : Nat) : Int) = ((min 4 s.size + 1 : Nat) : Int)) := ⟨by unfold mn; split <;> omega⟩
  have e4 : Aside0 (wrap64 (((min 4 s.size + 1 : Nat) : Int) - 1) = ((min 4 s.size : Nat) : Int)) := ⟨by rw [w64 (by omega) (by omega)]; omega⟩
  refine Ev.step (fun k => strings_genSplit.j0.eq_2 _ _ _ _ _) ?_
  rw [e2.out, e3.out, e4.out]
  refine ev_pos (by omega) (ev_pos (by omega) ?_)
  have := gen_l0 (min 4 s.size) (by omega) (min 4 s.size) s.data.toList [] (by simp) (by omega)
  rw [S_data] at this
  rw [Int.toNat_natCast]
  exact this
def res (s : ByteArray) : List Int × Bool := run (splN (min 4 s.size) s.data.toList) []
theorem impl_ev (s : ByteArray) (hs : s.size ≤ 1048576) : Ev (fun k => impl_ReadAddress.f k s) (res s) := by
  obtain ⟨m, rfl, h⟩ := splitN_ev s hs
  refine Ev.bind h ?_
  have hl : s.data.toList.length = s.size := dl_size s
  have hle := splN_le (min 4 s.size) s.data.toList
  have := impl_run (splN (min 4 s.size) s.data.toList) [] [] (by simp; omega) (by simp) (fun t ht => by have := splN_small _ _ t ht; omega)
  exact this
theorem res_spl (s : ByteArray) : res s = run (spl s.data.toList) [] := by
  have hl : s.data.toList.length = s.size := dl_size s
  have hc : s.data.toList.count 46 ≤ s.size := by rw [← hl]; exact List.count_le_length
  unfold res
  by_cases c : s.data.toList.count 46 ≤ 4
  · rw [splN_all _ _ (by omega)]
  · rw [show min 4 s.size = 4 by omega, run_len _ _ (by rw [splN_len 4 _ (by omega)]; simp), run_len _ _ (by rw [spl_length, List.length_nil]; omega)]
theorem spec_ev (s : ByteArray) (hs : s.size ≤ 1048576) : Ev (fun k => spec_ReadAddress.f k s) (res s) := by
  have hl : s.data.toList.length = s.size := dl_size s
  have hc : s.data.toList.count 46 ≤ s.size := by rw [← hl]; exact List.count_le_length
  rw [res_spl]
  refine ev_bindc rfl ?_
  by_cases c : (s.size : Int) > 15
  · have : run (spl s.data.toList) [] = ([], false) := by
      rcases run_all (spl s.data.toList) [] with h | h
      · have hb := spl_bound _ s.data.toList (Nat.le_refl _) h
        exact run_len _ _ (by simp; omega)
      · exact h
    rw [this]
    exact ev_pos c (Ev.now _)
  · refine ev_neg c (Ev.bind (parts_ev s hs) ?_)
    exact spec_run (spl s.data.toList) [] [] (by rw [spl_length, List.length_nil]; omega) (by simp) (fun t ht => by have := spl_small _ t ht; omega)
theorem run_size : ∀ (X : List (List UInt8)) (acc : List Int), (run X acc).1.length ≤ acc.length + X.length
  | [], acc => by
    unfold run
    split <;> simp
  | t :: r, acc => by
    unfold run
    cases swL t with
    | none => simp
    | some v =>
      have := run_size r (acc ++ [v])
      simp at this ⊢
      omega
theorem eqIntS_ev (l : List Int) (hl : l.length ≤ 1048577) : Ev (fun k => laws_eqIntS.f k l l) true :=
  ev_pos rfl (by simpa using eq_ev (L := laws_eqIntS.l0) (fun _ _ _ _ => rfl) l l (by omega) rfl)
theorem FnExactReadAddress : laws_FnExactReadAddress.Pure := by
  intro s _
  by_cases c0 : (s.size : Int) > 1048576
  · exact ev_k (ev_pos c0 (Ev.now _))
  have hs : s.size ≤ 1048576 := by omega
  have h1 := spec_ev s hs
  have h2 := impl_ev s hs
  have hr : (res s).1.length ≤ 100 := by
    have a := run_size (splN (min 4 s.size) s.data.toList) []
    have b := splN_le (min 4 s.size) s.data.toList
    have a : (res s).1.length ≤ 0 + (splN (min 4 s.size) s.data.toList).length := a
    omega
  obtain ⟨⟨r, b⟩, hz⟩ : ∃ z, z = res s := ⟨_, rfl⟩
  rw [← hz] at h1 h2 hr
  have hr : r.length ≤ 100 := hr
  have he := eqIntS_ev r (by omega)
  have hm : Ev (fun k => laws_markIntS.f k r 1) (1 + (r.length : Int), mI 1 r.length) := markI_ev (L := laws_markIntS.l0) (fun _ _ _ _ => rfl) r [] 1 (by simp; omega) (by omega) (by omega)
  have hh : Ev (fun k => laws_heldIntS.f k (mI 1 r.length) 1) (1 + (r.length : Int)) := heldI_ev (H := laws_heldIntS.l0) (fun _ _ _ _ => rfl) r.length [] 1 (by simp; omega) (by omega) (by omega)
  have j1 : Ev (fun k => laws_FnExactReadAddress.j1 k (mI 1 r.length) (1 + (r.length : Int)) false) true :=
    Ev.step (fun _ => laws_FnExactReadAddress.j1.eq_2 _ _ _ _) (ev_neg (by simp) (Ev.bind hh (ev_neg (by omega) (ev_pos rfl (Ev.now _)))))
  refine ev_k (ev_neg c0 (Ev.bind h1 (Ev.bind h2 (Ev.bind he (ev_pos rfl ?_)))))
  rw [bne_self_eq_false]
  exact Ev.step (fun _ => laws_FnExactReadAddress.j0.eq_2 _ _ _ _ _ _) (ev_neg (by simp) (Ev.bind hm (Ev.bind hh (ev_neg (by omega) (ev_pos rfl (Ev.bind h2 (Ev.bind he (ev_pos rfl (by rw [bne_self_eq_false]; exact j1)))))))))

end Go.Proofs.YthfaelbkdhhmdaaDoor.Pure
