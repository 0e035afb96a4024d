/- What a drawn pattern with a star matches is one label further, and is under what stands behind the star; a host is under itself. -/
import Derived.Test.YthfaelbkdhhmdaaDoorGFnHostsx4
import Derived.Test.YthfaelbkdhhmdaaDoorBase
namespace Go.Proofs.YthfaelbkdhhmdaaDoor.Pure
open Go.RowKit Go.Proofs.YthfaelbkdhhmdaaDoor.GFnHosts Go.Proofs.YthfaelbkdhhmdaaDoorW.PrintWords Go.Proofs.YthfaelbkdhhmdaaDoorW.PrintLast Go.Proofs.YthfaelbkdhhmdaaDoor.Base
set_option linter.unusedVariables false
set_option linter.unusedSimpArgs false

theorem within_eq (x a b : Int) : impl_within.f x a b = some (decide (a ≤ x ∧ x ≤ b)) := by
  unfold impl_within.f
  by_cases h : x ≥ a
  · rw [if_pos h]; simp [show a ≤ x from h]
  · rw [if_neg h]; simp [show ¬ a ≤ x from h]
theorem isDigit_eq (c : Int) : impl_isDigit.f c = some (decide (48 ≤ c ∧ c ≤ 57)) := within_eq c 48 57
/-! ### draws: what the laws' generators give -/
theorem and255 (x : Int) : 0 ≤ Go.bits .and .i64 x 255 ∧ Go.bits .and .i64 x 255 ≤ 255 := by
  have h : (BitVec.ofInt 64 x &&& BitVec.ofInt 64 255).toNat ≤ 255 := by
    rw [BitVec.toNat_and]
    exact Nat.le_trans Nat.and_le_right (by decide)
  have e : Go.bits .and .i64 x 255 = IntKind.i64.wrap ((BitVec.ofInt 64 x &&& BitVec.ofInt 64 255).toNat : Int) := rfl
  rw [e]
  generalize (BitVec.ofInt 64 x &&& BitVec.ofInt 64 255).toNat = m at h
  rw [wrap_i64_id 62 (by decide) _ (by omega) (by omega)]
  omega
theorem new_ev (l : List Int) (hl : l.length ≤ 1048576) : ∃ s, Ev (fun k => spec_l1New.f k l) (l, 0, s) := by
  have H : ∀ (d i : Nat) (s : Int), i + d = 4000 → ∃ s', Ev (fun k => spec_l1New.l0 k l s (i : Int)) (l, 0, s') := by
    intro d
    induction d with
    | zero =>
      intro i s hi
      by_cases c : (i : Int) < (l.length : Int)
      · exact ⟨s, Ev.step (fun k => spec_l1New.l0.eq_2 _ _ _ _) (ev_pos c (ev_neg (by omega) (Ev.now _)))⟩
      · exact ⟨s, Ev.step (fun k => spec_l1New.l0.eq_2 _ _ _ _) (ev_neg c (Ev.now _))⟩
    | succ d ih =>
      intro i s hi
      by_cases c : (i : Int) < (l.length : Int)
      · obtain ⟨s', h⟩ := ih (i + 1) (Go.bits .and .i64 (wrap64 ((wrap64 ((wrap64 (s * 131)) + (wrap64 (rd l (i : Int))))) + 7)) 1073741823) (by omega)
        refine ⟨s', Ev.step (fun k => spec_l1New.l0.eq_2 _ _ _ _) (ev_pos c (ev_pos (by omega) (ev_pos (by omega) ?_)))⟩
        rw [w64 (x := (i : Int) + 1) (by omega) (by omega)]
        exact h
      · exact ⟨s, Ev.step (fun k => spec_l1New.l0.eq_2 _ _ _ _) (ev_neg c (Ev.now _))⟩
  exact H 4000 0 _ rfl
/-- the place in the bytes that are drawn from -/
structure At (l : List Int) (p : Int) : Prop where
  big : l.length ≤ 1048576
  lo : 0 ≤ p
  hi : p ≤ 1048576
theorem byte_some {l : List Int} {p : Int} (h : At l p) (s : Int) : ∃ b p' s', spec_l1Byte.f l p s = some (b, p', s') ∧ 0 ≤ b ∧ b ≤ 255 ∧ At l p' := by
  unfold spec_l1Byte.f
  have hb := h.big
  have h0 := h.lo
  have h1 := h.hi
  by_cases c : p < (l.length : Int)
  · rw [if_pos c, if_pos h0, w64 (x := p + 1) (by omega) (by omega)]
    exact ⟨_, _, _, rfl, (and255 _).1, (and255 _).2, ⟨hb, by omega, by omega⟩⟩
  · rw [if_neg c]
    exact ⟨_, _, _, rfl, (and255 _).1, (and255 _).2, h⟩
theorem below_some {l : List Int} {p : Int} (h : At l p) (s : Int) (a : Int) (h0 : 0 < a) (h1 : a ≤ 4294967296) : ∃ v p' s', spec_l1Below.f l p s a = some (v, p', s') ∧ 0 ≤ v ∧ v < a ∧ At l p' := by
  unfold spec_l1Below.f
  rw [if_neg (by omega)]
  by_cases c : a ≤ 256
  · rw [if_pos c]
    obtain ⟨b, p', s', e, r0, r1, h'⟩ := byte_some h s
    rw [e]
    simp only [Option.bind_some]
    rw [if_neg (by omega), Int.tmod_eq_emod_of_nonneg r0]
    exact ⟨_, _, _, rfl, Int.emod_nonneg _ (by omega), Int.emod_lt_of_pos _ h0, h'⟩
  · rw [if_neg c]
    obtain ⟨b1, p1, s1, e1, r1, q1, h1'⟩ := byte_some h s
    rw [e1]
    simp only [Option.bind_some]
    obtain ⟨b2, p2, s2, e2, r2, q2, h2'⟩ := byte_some h1' s1
    rw [e2]
    simp only [Option.bind_some]
    obtain ⟨b3, p3, s3, e3, r3, q3, h3'⟩ := byte_some h2' s2
    rw [e3]
    simp only [Option.bind_some]
    obtain ⟨b4, p4, s4, e4, r4, q4, h4'⟩ := byte_some h3' s3
    rw [e4]
    simp only [Option.bind_some]
    rw [if_neg (by omega), w64 (x := b1 * 16777216) (by omega) (by omega), w64 (x := b2 * 65536) (by omega) (by omega), w64 (x := b1 * 16777216 + b2 * 65536) (by omega) (by omega), w64 (x := b3 * 256) (by omega) (by omega),
      w64 (x := b1 * 16777216 + b2 * 65536 + b3 * 256) (by omega) (by omega), w64 (x := b1 * 16777216 + b2 * 65536 + b3 * 256 + b4) (by omega) (by omega), Int.tmod_eq_emod_of_nonneg (by omega)]
    exact ⟨_, _, _, rfl, Int.emod_nonneg _ (by omega), Int.emod_lt_of_pos _ h0, h4'⟩
/-! ### strings as lists of bytes -/
def S (l : List UInt8) : ByteArray := ⟨l.toArray⟩
theorem S_data (s : ByteArray) : S s.data.toList = s := by unfold S; simp
theorem S_size (l : List UInt8) : (S l).size = l.length := by unfold S ByteArray.size; simp
theorem S_list (l : List UInt8) : (S l).toList = l := by rw [ByteArray.toList_eq]; unfold S; simp
theorem S_dataList (l : List UInt8) : (S l).data.toList = l := by unfold S; simp
theorem dl_size (s : ByteArray) : s.data.toList.length = s.size := by rw [Array.length_toList]; rfl
theorem S_bt (l : List UInt8) (i : Nat) (h : i < l.length) : bt (S l) (i : Int) = ((l[i].toNat : Nat) : Int) := by
  have hs : i < (S l).size := by rw [S_size]; exact h
  unfold bt
  rw [dif_pos (by simpa using hs)]
  simp [S, ByteArray.getElem_eq_getElem_data]
theorem S_ext (l : List UInt8) (a b : Nat) : (S l).extract a b = S ((l.take b).drop a) := by
  apply ByteArray.ext
  rw [ByteArray.data_extract]
  unfold S
  simp [List.take_drop]
  by_cases h : a ≤ b
  · rw [show a + (b - a) = b by omega]
  · rw [List.drop_eq_nil_of_le (by simp <;> omega), List.drop_eq_nil_of_le (by simp <;> omega)]
theorem bd (x y : List UInt8) : (x == y) = decide (x = y) := by rw [Bool.eq_iff_iff]; simp
theorem u46 (b : UInt8) : ((b.toNat : Nat) : Int) = 46 ↔ b = 46 := by
  constructor
  · intro h
    apply UInt8.toNat_inj.1
    show b.toNat = 46
    omega
  · rintro rfl
    rfl
/-! ### the parts of a text between points -/
def spl : List UInt8 → List (List UInt8)
  | [] => [[]]
  | b :: l => if b = 46 then [] :: spl l else (b :: (spl l).headD []) :: (spl l).tail
def att (p : List UInt8) (L : List (List UInt8)) : List (List UInt8) := (p ++ L.headD []) :: L.tail
theorem spl_ne (l : List UInt8) : spl l ≠ [] := by
  cases l with
  | nil => simp [spl]
  | cons b l => rw [spl]; split <;> simp
theorem att_nil (l : List UInt8) : att [] (spl l) = spl l := by
  have := spl_ne l
  unfold att
  cases h : spl l with
  | nil => exact absurd h this
  | cons a t => simp
theorem att_pt (p l : List UInt8) : att p (spl (46 :: l)) = p :: spl l := by simp [att, spl]
theorem att_other (p l : List UInt8) (b : UInt8) (h : ¬ b = 46) : att p (spl (b :: l)) = att (p ++ [b]) (spl l) := by simp [att, spl, h]
theorem spl_length (l : List UInt8) : (spl l).length = l.count 46 + 1 := by
  induction l with
  | nil => rfl
  | cons b l ih =>
    rw [spl]
    have := spl_ne l
    have hp : 0 < (spl l).length := List.length_pos_iff.2 this
    by_cases c : b = 46
    · subst c
      simp [ih]
    · simp only [if_neg c, List.length_cons, List.length_tail]
      rw [List.count_cons_of_ne (by simpa using c)]
      omega
theorem spl_none (l : List UInt8) (h : (46 : UInt8) ∉ l) : spl l = [l] := by
  induction l with
  | nil => rfl
  | cons b l ih =>
    have h1 : ¬ b = 46 := fun e => h (by simp [e])
    have h2 : (46 : UInt8) ∉ l := fun e => h (by simp [e])
    rw [spl, if_neg h1, ih h2]
    simp
theorem spl_some (a b : List UInt8) (h : (46 : UInt8) ∉ a) : spl (a ++ 46 :: b) = a :: spl b := by
  induction a with
  | nil => simp [spl]
  | cons x a ih =>
    have h1 : ¬ x = 46 := fun e => h (by simp [e])
    have h2 : (46 : UInt8) ∉ a := fun e => h (by simp [e])
    rw [List.cons_append, spl, if_neg h1, ih h2]
    simp
def prt (s : ByteArray) : List ByteArray := (spl s.data.toList).map S
/-! ### the library's splitting -/
theorem ix_none (l : List UInt8) (h : (46 : UInt8) ∉ l) : Lib.indexByte l 46 = -1 := by
  induction l with
  | nil => rfl
  | cons b l ih =>
    have h1 : ¬ b = 46 := fun e => h (by simp [e])
    have h2 : (46 : UInt8) ∉ l := fun e => h (by simp [e])
    rw [Lib.indexByte, if_neg (by simpa using h1), ih h2]
    rfl
theorem ix_some (a b : List UInt8) (h : (46 : UInt8) ∉ a) : Lib.indexByte (a ++ 46 :: b) 46 = (a.length : Int) := by
  induction a with
  | nil => simp [Lib.indexByte]
  | cons x a ih =>
    have h1 : ¬ x = 46 := fun e => h (by simp [e])
    have h2 : (46 : UInt8) ∉ a := fun e => h (by simp [e])
    rw [List.cons_append, Lib.indexByte, if_neg (by simpa using h1), ih h2, if_neg (by simp <;> omega)]
    simp
theorem index_pt (s : ByteArray) : Hand.stringslite_Index.f s (⟨#[46]⟩ : ByteArray) = some (Lib.indexByte s.data.toList 46) := rfl
theorem first_pt (l : List UInt8) : (46 : UInt8) ∉ l ∨ ∃ a b, l = a ++ 46 :: b ∧ (46 : UInt8) ∉ a := by
  by_cases h : (46 : UInt8) ∈ l
  · obtain ⟨a, b, e, h2⟩ := List.eq_append_cons_of_mem h
    exact .inr ⟨a, b, e, h2⟩
  · exact .inl h
def splN : Nat → List UInt8 → List (List UInt8)
  | 0, l => [l]
  | n + 1, l => if (46 : UInt8) ∈ l then l.takeWhile (fun x => x != 46) :: splN n ((l.dropWhile (fun x => x != 46)).drop 1) else [l]
theorem splN_some (n : Nat) (a b : List UInt8) (h : (46 : UInt8) ∉ a) : splN (n + 1) (a ++ 46 :: b) = a :: splN n b := by
  have h1 : ∀ x ∈ a, (x != 46) = true := fun x hx => by
    simp only [bne_iff_ne, ne_eq]
    rintro rfl
    exact h hx
  rw [splN, if_pos (by simp), List.takeWhile_append_of_pos h1, List.dropWhile_append_of_pos h1]
  simp
theorem splN_none (n : Nat) (l : List UInt8) (h : (46 : UInt8) ∉ l) : splN n l = [l] := by
  cases n with
  | zero => rfl
  | succ n => rw [splN, if_neg h]
theorem splN_all : ∀ (n : Nat) (l : List UInt8), l.count 46 ≤ n → splN n l = spl l := by
  intro n
  induction n with
  | zero =>
    intro l h
    have : (46 : UInt8) ∉ l := List.count_eq_zero.1 (by omega)
    rw [spl_none l this]
    rfl
  | succ n ih =>
    intro l h
    rcases first_pt l with h1 | ⟨a, b, rfl, h2⟩
    · rw [splN_none _ _ h1, spl_none l h1]
    · rw [splN_some _ _ _ h2, spl_some _ _ h2, ih]
      rw [List.count_append, List.count_cons_self] at h
      omega
theorem gen_l0 (m : Nat) (hm : m ≤ 1048577) : ∀ (j : Nat) (l : List UInt8) (done : List ByteArray), done.length + j = m → l.length ≤ 1048576 →
    Ev (fun k => strings_genSplit.l0 k (S l) (⟨#[46]⟩ : ByteArray) 0 (m : Int) (done ++ List.replicate (j + 1) (⟨#[]⟩ : ByteArray)) (done.length : Int)) (done ++ (splN j l).map S) := by
  intro j
  induction j with
  | zero =>
    intro l done hj hl
    have e1 : Aside0 (wrap64 ((done.length : Int) + 1) = ((done.length + 1 : Nat) : Int)) := ⟨by rw [w64 (by omega) (by omega)]; rfl⟩
    refine Ev.step (fun k => strings_genSplit.l0.eq_2 _ _ _ _ _ _ _) (ev_neg (by omega) (ev_pos (by omega) (ev_pos (by simp <;> omega) ?_)))
    rw [e1.out]
    refine ev_pos (by omega) (ev_pos (by simp) ?_)
    rw [Int.toNat_natCast, Int.toNat_natCast]
    have : ((done ++ List.replicate (0 + 1) (⟨#[]⟩ : ByteArray)).set done.length (S l)).take (done.length + 1) = done ++ (splN 0 l).map S := by
      rw [List.set_append_right _ _ (Nat.le_refl _), Nat.sub_self]
      simp only [List.replicate_succ, List.replicate_zero, List.set_cons_zero, splN, List.map_cons, List.map_nil]
      exact List.take_of_length_le (by simp)
    rw [this]
    exact Ev.now _
  | succ j ih =>
    intro l done hj hl
    have e1 : Aside0 (wrap64 ((done.length : Int) + 1) = ((done.length + 1 : Nat) : Int)) := ⟨by rw [w64 (by omega) (by omega)]; rfl⟩
    rcases first_pt l with h1 | ⟨a, b, rfl, h2⟩
    · rw [splN_none _ _ h1]
      refine Ev.step (fun k => strings_genSplit.l0.eq_2 _ _ _ _ _ _ _) (ev_pos (by omega) (ev_bindc (a := -1) ?_ (ev_pos (by omega) (ev_pos (by omega) (ev_pos (by simp <;> omega) ?_)))))
      · unfold strings_Index.f
        rw [index_pt, S_dataList, ix_none l h1]
        rfl
      · rw [e1.out]
        refine ev_pos (by omega) (ev_pos (by simp <;> omega) ?_)
        rw [Int.toNat_natCast, Int.toNat_natCast]
        have : ((done ++ List.replicate (j + 1 + 1) (⟨#[]⟩ : ByteArray)).set done.length (S l)).take (done.length + 1) = done ++ [l].map S := by
          rw [List.set_append_right _ _ (Nat.le_refl _), Nat.sub_self, List.replicate_succ, List.set_cons_zero]
          rw [show ∀ X : List ByteArray, done ++ S l :: X = (done ++ [S l]) ++ X from fun X => by simp, show done.length + 1 = (done ++ [S l]).length by simp, List.take_left]
          rfl
        rw [this]
        exact Ev.now _
    · rw [splN_some _ _ _ h2]
      simp only [List.length_append, List.length_cons] at hl
      have := ih b (done ++ [S a]) (by simp <;> omega) (by omega)
      refine Ev.step (fun k => strings_genSplit.l0.eq_2 _ _ _ _ _ _ _) (ev_pos (by omega) (ev_bindc (a := (a.length : Int)) ?_ ?_))
      · unfold strings_Index.f
        rw [index_pt, S_dataList, ix_some a b h2]
        rfl
      · have e2 : Aside0 (wrap64 ((a.length : Int) + 0) = (a.length : Int)) := ⟨by rw [w64 (by omega) (by omega)]; omega⟩
        have e3 : Aside0 (wrap64 ((a.length : Int) + (((⟨#[46]⟩ : ByteArray).size : Nat) : Int)) = ((a.length + 1 : Nat) : Int)) := ⟨by show wrap64 ((a.length : Int) + 1) = _; rw [w64 (by omega) (by omega)]; rfl⟩
        refine ev_neg (by omega) ?_
        simp only [e2.out, e3.out, e1.out]
        refine ev_pos (by omega) (ev_pos (by rw [S_size]; simp <;> omega) (ev_pos (by omega) (ev_pos (by simp <;> omega) (ev_pos (by omega) (ev_pos (by rw [S_size]; simp <;> omega) ?_)))))
        rw [Int.toNat_natCast, Int.toNat_natCast, Int.toNat_natCast, S_ext, S_ext, S_size, List.take_length]
        have q1 : (a ++ 46 :: b).drop (a.length + 1) = b := by
          rw [show a ++ 46 :: b = (a ++ [46]) ++ b by simp, show a.length + 1 = (a ++ [46]).length by simp, List.drop_left]
        have q2 : ((a ++ 46 :: b).take a.length).drop 0 = a := by rw [List.take_left]; rfl
        have q3 : (done ++ List.replicate (j + 1 + 1) (⟨#[]⟩ : ByteArray)).set done.length (S a) = (done ++ [S a]) ++ List.replicate (j + 1) (⟨#[]⟩ : ByteArray) := by
          rw [List.set_append_right _ _ (Nat.le_refl _), Nat.sub_self]
          simp [List.replicate_succ]
        rw [q1, q2, q3]
        simp only [List.length_append, List.length_cons, List.length_nil, List.append_assoc, List.cons_append, List.nil_append, List.map_cons] at this ⊢
        exact this
theorem split_ev (s : ByteArray) (hs : s.size ≤ 1048576) : Ev (fun k => strings_Split.f k s (⟨#[46]⟩ : ByteArray)) (prt s) := by
  have hl : s.data.toList.length = s.size := dl_size s
  have hc : s.data.toList.count 46 ≤ s.size := by rw [← hl]; exact List.count_le_length
  refine Ev.bind (a := prt s) (ev_neg (by omega) (ev_neg (by rw [ByteArray.toList_eq]; simp) (ev_pos (by omega) (ev_bindc (show Hand.strings_Count.f s (⟨#[46]⟩ : ByteArray) = some ((s.data.toList.count 46 : Nat) : Int) from rfl) ?_)))) (Ev.now _)
  have e1 : Aside0 (wrap64 (((s.data.toList.count 46 : Nat) : Int) + 1) = ((s.data.toList.count 46 + 1 : Nat) : Int)) := ⟨by rw [w64 (by omega) (by omega)]; rfl⟩
  have e2 : Aside0 (wrap64 ((s.size : Int) + 1) = ((s.size + 1 : Nat) : Int)) := ⟨by rw [w64 (by omega) (by omega)]; rfl⟩
  have e3 : Aside0 (mn ((s.data.toList.count 46 + 1 : Nat) : Int) ((s.size + 1 : Nat) : Int) = ((s.data.toList.count 46 + 1 : Nat) : Int)) := ⟨by unfold mn; split <;> omega⟩
  have e4 : Aside0 (wrap64 (((s.data.toList.count 46 + 1 : Nat) : Int) - 1) = ((s.data.toList.count 46 : Nat) : Int)) := ⟨by rw [w64 (by omega) (by omega)]; omega⟩
  rw [e1.out]
  refine Ev.step (fun k => strings_genSplit.j0.eq_2 _ _ _ _ _) ?_
  rw [e2.out, e3.out, e4.out]
  refine ev_pos (by omega) (ev_pos (by omega) ?_)
  have := gen_l0 (s.data.toList.count 46) (by omega) (s.data.toList.count 46) s.data.toList [] (by simp) (by omega)
  rw [splN_all _ _ (Nat.le_refl _), S_data] at this
  rw [Int.toNat_natCast]
  exact this
/-! ### labels -/
def okc (b : Int) : Bool := decide ((97 ≤ b ∧ b ≤ 122) ∨ (48 ≤ b ∧ b ≤ 57) ∨ b = 45)
def labE (s : ByteArray) : Bool := if 1 ≤ (s.size : Int) ∧ (s.size : Int) ≤ 20 then (if bt s 0 = 45 then false else bt s ((s.size : Int) - 1) != 45) else false
def labB (s : ByteArray) : Bool := (List.range s.size).all (fun i => okc (bt s (i : Int))) && labE s
theorem label_impl (s : ByteArray) (hs : s.size ≤ 1048576) : Ev (fun k => impl_isLabel.f k s) (labB s) := by
  refine all_ev (L := fun k i => impl_isLabel.l0 k s (s.size : Int) i) s.size ?_ ?_ ?_
  · intro i hi hp r h
    have hb := bt_range s (i : Int)
    have hp := of_decide_eq_true hp
    have ei : Aside0 (wrap64 ((i : Int) + 1) = ((i + 1 : Nat) : Int)) := ⟨by rw [w64 (by omega) (by omega)]; rfl⟩
    refine Ev.step (fun k => impl_isLabel.l0.eq_2 _ _ _ _) (ev_pos (by omega) (ev_pos (by omega) (ev_pos (by omega) (ev_bindc (isDigit_eq _) ?_))))
    rw [ei.out]
    by_cases c2 : 48 ≤ bt s (i : Int) ∧ bt s (i : Int) ≤ 57
    · exact ev_pos (decide_eq_true c2) h
    · refine ev_neg (by rw [decide_eq_false c2]; simp) ?_
      by_cases c3 : bt s (i : Int) < 97
      · exact ev_pos c3 (ev_pos (by omega) h)
      · exact ev_neg c3 (ev_neg (by omega) h)
  · intro i hi hp
    have hb := bt_range s (i : Int)
    have hp := of_decide_eq_false hp
    refine Ev.step (fun k => impl_isLabel.l0.eq_2 _ _ _ _) (ev_pos (by omega) (ev_pos (by omega) (ev_pos (by omega) (ev_bindc (isDigit_eq _) (ev_neg (by rw [decide_eq_false (by omega)]; simp) ?_)))))
    by_cases c3 : bt s (i : Int) < 97
    · exact ev_pos c3 (ev_neg (by omega) (Ev.now _))
    · exact ev_neg c3 (ev_pos (by omega) (ev_neg (by omega) (Ev.now _)))
  · refine Ev.step (fun k => impl_isLabel.l0.eq_2 _ _ _ _) (ev_neg (by omega) (ev_bindc (within_eq _ _ _) ?_))
    unfold labE
    by_cases c : 1 ≤ (s.size : Int) ∧ (s.size : Int) ≤ 20
    · have e1 : Aside0 (wrap64 ((s.size : Int) - 1) = (s.size : Int) - 1) := ⟨w64 (by omega) (by omega)⟩
      rw [if_pos c, e1.out]
      refine ev_pos (decide_eq_true c) (ev_pos (by omega) (ev_ite (fun _ => Ev.now _) (fun _ => ev_pos (by omega) (ev_pos (by omega) (Ev.now _)))))
    · rw [if_neg c]
      exact ev_neg (by rw [decide_eq_false c]; simp) (Ev.now _)
def dgB (s : ByteArray) : Bool := (List.range s.size).all (fun i => decide (48 ≤ bt s (i : Int) ∧ bt s (i : Int) ≤ 57)) && decide ((s.size : Int) > 0)
/-! ### hosts -/
theorem rdOf_mem {xs : List ByteArray} {i : Int} (h0 : 0 ≤ i) (h1 : i < (xs.length : Int)) : rdOf ByteArray.empty xs i ∈ xs := by
  obtain ⟨n, rfl⟩ := Int.eq_ofNat_of_zero_le h0
  have : n < xs.length := by omega
  simp [rdOf, this]
theorem spl_small (l : List UInt8) : ∀ x ∈ spl l, x.length ≤ l.length := by
  induction l with
  | nil => intro x hx; simp [spl] at hx; simp [hx]
  | cons b l ih =>
    intro x hx
    rw [spl] at hx
    by_cases c : b = 46
    · rw [if_pos c] at hx
      rcases List.mem_cons.1 hx with rfl | h
      · simp
      · have := ih x h
        simp <;> omega
    · rw [if_neg c] at hx
      have hne := spl_ne l
      cases h : spl l with
      | nil => exact absurd h hne
      | cons a t =>
        rw [h] at hx ih
        simp only [List.headD_cons, List.tail_cons] at hx
        rcases List.mem_cons.1 hx with rfl | hm
        · have := ih a (by simp)
          simp <;> omega
        · have := ih x (by simp [hm])
          simp <;> omega
theorem prt_small (s : ByteArray) : ∀ x ∈ prt s, x.size ≤ s.size := by
  intro x hx
  obtain ⟨y, hy, rfl⟩ := List.mem_map.1 hx
  have := spl_small _ y hy
  rw [dl_size] at this
  rw [S_size]
  exact this
theorem prt_pos (s : ByteArray) : 0 < (prt s).length := by unfold prt; rw [List.length_map, spl_length]; omega
theorem prt_len (s : ByteArray) : (prt s).length ≤ s.size + 1 := by
  unfold prt
  rw [List.length_map, spl_length]
  have : s.data.toList.count 46 ≤ s.data.toList.length := List.count_le_length
  have hl : s.data.toList.length = s.size := dl_size s
  omega
def allLab (s : ByteArray) : Bool := (List.range (prt s).length).all (fun i => labB (rdOf ByteArray.empty (prt s) (i : Int)))
def lastP (s : ByteArray) : ByteArray := rdOf ByteArray.empty (prt s) (((prt s).length : Int) - 1)
def hostB (s : ByteArray) : Bool := if (s.size : Int) > 80 then false else (allLab s && (if ((prt s).length : Int) ≤ 8 then !(dgB (lastP s)) else false))
theorem any_ev (s : ByteArray) (hs : s.size ≤ 1048576) : Ev (fun k => slices_ContainsFunc_string_string_at57.f k (prt s)) (!(allLab s)) := by
  have hq := prt_len s
  have sz : ∀ i : Int, 0 ≤ i → i < ((prt s).length : Int) → (rdOf ByteArray.empty (prt s) i).size ≤ 1048576 := fun i h0 h1 => by
    have := prt_small s _ (rdOf_mem h0 h1)
    omega
  have key : ∀ d i : Nat, i + d = (prt s).length → (∀ j : Nat, j < i → labB (rdOf ByteArray.empty (prt s) (j : Int)) = true) → ∃ r, Ev (fun k => slices_IndexFunc_string_string_at57.l0 k (prt s) ((prt s).length : Int) (i : Int)) r ∧ decide (r ≥ 0) = !(allLab s) := by
    intro d
    induction d with
    | zero =>
      intro i hi hj
      refine ⟨-1, Ev.step (fun k => slices_IndexFunc_string_string_at57.l0.eq_2 _ _ _ _) (ev_neg (by omega) (Ev.now _)), ?_⟩
      have : allLab s = true := by
        unfold allLab
        rw [List.all_eq_true]
        intro x hx
        exact hj x (by have := List.mem_range.1 hx; omega)
      rw [this]
      rfl
    | succ d ih =>
      intro i hi hj
      have hl := label_impl _ (sz (i : Int) (by omega) (by omega))
      cases c : labB (rdOf ByteArray.empty (prt s) (i : Int)) with
      | true =>
        rw [c] at hl
        obtain ⟨r, h1, h2⟩ := ih (i + 1) (by omega) (fun j hj' => by
          by_cases e : j = i
          · rw [e]; exact c
          · exact hj j (by omega))
        refine ⟨r, Ev.step (fun k => slices_IndexFunc_string_string_at57.l0.eq_2 _ _ _ _) (ev_pos (by omega) (ev_pos (by omega) (ev_pos (by omega) (Ev.bind (a := false) (Ev.bind hl (Ev.now _)) (ev_neg (by simp) ?_))))), h2⟩
        rw [w64 (by omega) (by omega)]
        exact h1
      | false =>
        rw [c] at hl
        refine ⟨i, Ev.step (fun k => slices_IndexFunc_string_string_at57.l0.eq_2 _ _ _ _) (ev_pos (by omega) (ev_pos (by omega) (ev_pos (by omega) (Ev.bind (a := true) (Ev.bind hl (Ev.now _)) (ev_pos rfl (Ev.now _)))))), ?_⟩
        have : allLab s = false := by
          unfold allLab
          rw [List.all_eq_false]
          exact ⟨i, List.mem_range.2 (by omega), by simp [c]⟩
        rw [this, decide_eq_true (by omega)]
        rfl
  obtain ⟨r, h1, h2⟩ := key (prt s).length 0 (by omega) (fun j hj => by omega)
  rw [← h2]
  exact Ev.bind h1 (Ev.now _)
theorem dw_nil (p : UInt8 → Bool) (l : List UInt8) : l.dropWhile p = [] ↔ l.all p = true := by
  induction l with
  | nil => simp
  | cons b l ih =>
    by_cases c : p b = true
    · rw [List.dropWhile_cons_of_pos c, ih]; simp [c]
    · rw [List.dropWhile_cons_of_neg c]; simp [c]
theorem trim_nil (l cs : List UInt8) : Lib.trimS l cs = [] ↔ l.all (fun b => cs.contains b) = true := by
  unfold Lib.trimS Lib.trimLeftS Lib.trimRightS
  rw [dw_nil]
  constructor
  · intro h
    by_cases c : l.reverse.dropWhile (fun b => cs.contains b) = []
    · rw [dw_nil, List.all_reverse] at c
      exact c
    · exfalso
      obtain ⟨a, t, e⟩ := List.exists_cons_of_ne_nil c
      rw [e] at h
      have h1 := List.all_eq_true.1 h a (by simp)
      have h2 : ¬ (fun b => cs.contains b) a = true := by
        have := List.head_dropWhile_not (fun b => cs.contains b) (l := l.reverse) c
        simp only [e, List.head_cons] at this
        show ¬ cs.contains a = true
        rw [this]
        simp
      exact h2 h1
  · intro h
    have : l.reverse.dropWhile (fun b => cs.contains b) = [] := by rw [dw_nil, List.all_reverse]; exact h
    rw [this]
    rfl
theorem trim_digits (x : ByteArray) (hx : x.size ≤ 1048576) : ∃ t, Hand.strings_Trim.f x (⟨#[48, 49, 50, 51, 52, 53, 54, 55, 56, 57]⟩ : ByteArray) = some t ∧ (t.toList != ([] : List UInt8)) = !((List.range x.size).all (fun i => decide (48 ≤ bt x (i : Int) ∧ bt x (i : Int) ≤ 57))) := by
  refine ⟨S (Lib.trimS x.data.toList [48, 49, 50, 51, 52, 53, 54, 55, 56, 57]), ?_, ?_⟩
  · unfold Hand.strings_Trim.f
    rw [if_pos (by omega), if_pos (by decide), if_pos (by decide)]
    rfl
  · rw [S_list]
    have e : (Lib.trimS x.data.toList [48, 49, 50, 51, 52, 53, 54, 55, 56, 57] = []) ↔ ((List.range x.size).all (fun i => decide (48 ≤ bt x (i : Int) ∧ bt x (i : Int) ≤ 57)) = true) := by
      rw [trim_nil, List.all_eq_true, List.all_eq_true]
      have hl : x.data.toList.length = x.size := dl_size x
      have hcs : ∀ b : UInt8, ([48, 49, 50, 51, 52, 53, 54, 55, 56, 57] : List UInt8).contains b = true ↔ (48 ≤ ((b.toNat : Nat) : Int) ∧ ((b.toNat : Nat) : Int) ≤ 57) := by
        have : ∀ n : Fin 256, ([48, 49, 50, 51, 52, 53, 54, 55, 56, 57] : List UInt8).contains (UInt8.ofNat n) = true ↔ (48 ≤ ((n.val : Nat) : Int) ∧ ((n.val : Nat) : Int) ≤ 57) := by decide +kernel
        intro b
        have h := this ⟨b.toNat, b.toNat_lt⟩
        simpa using h
      constructor
      · intro h i hi
        have hi := List.mem_range.1 hi
        have hm : x.data.toList[i] ∈ x.data.toList := List.getElem_mem (by omega)
        have h1 := (hcs _).1 (h _ hm)
        have h2 := S_bt x.data.toList i (by omega)
        rw [S_data] at h2
        rw [h2]
        exact decide_eq_true h1
      · intro h b hb
        obtain ⟨i, hi, rfl⟩ := List.mem_iff_getElem.1 hb
        have h1 := of_decide_eq_true (h i (List.mem_range.2 (by omega)))
        have h2 := S_bt x.data.toList i hi
        rw [S_data] at h2
        rw [h2] at h1
        exact (hcs _).2 h1
    rw [Bool.eq_iff_iff]
    simp only [bne_iff_ne, ne_eq, Bool.not_eq_true', e]
    simp
theorem host_impl (s : ByteArray) (hs : s.size ≤ 1048576) : Ev (fun k => impl_HostOk.f k s) (hostB s) := by
  unfold hostB
  by_cases c : (s.size : Int) > 80
  · rw [if_pos c]
    exact ev_pos c (Ev.now _)
  rw [if_neg c]
  have hp := prt_pos s
  have hq := prt_len s
  refine ev_neg c (Ev.bind (split_ev s hs) ?_)
  by_cases c2 : ((prt s).length : Int) > 8
  · have hB : (if ((prt s).length : Int) ≤ 8 then !(dgB (lastP s)) else false) = false := if_neg (by omega)
    rw [hB, Bool.and_false]
    exact ev_pos c2 (Ev.now _)
  have hB : (if ((prt s).length : Int) ≤ 8 then !(dgB (lastP s)) else false) = !(dgB (lastP s)) := if_pos (by omega)
  rw [hB]
  refine ev_neg c2 (Ev.bind (any_ev s hs) ?_)
  cases h : allLab s with
  | false => exact ev_pos rfl (Ev.now _)
  | true =>
    refine ev_neg (by simp) ?_
    rw [w64 (by omega) (by omega)]
    have hm := prt_small s _ (rdOf_mem (xs := prt s) (i := ((prt s).length : Int) - 1) (by omega) (by omega))
    obtain ⟨t, h1, h2⟩ := trim_digits (lastP s) (by unfold lastP; omega)
    refine ev_pos (by omega) (ev_pos (by omega) (ev_bindc h1 ?_))
    have hlab : labB (lastP s) = true := by
      unfold allLab at h
      have := List.all_eq_true.1 h ((prt s).length - 1) (List.mem_range.2 (by omega))
      rw [show (((prt s).length - 1 : Nat) : Int) = ((prt s).length : Int) - 1 by omega] at this
      exact this
    have hsz : (lastP s).size > 0 := by
      unfold labB labE at hlab
      by_cases c3 : 1 ≤ ((lastP s).size : Int) ∧ ((lastP s).size : Int) ≤ 20
      · omega
      · rw [if_neg c3] at hlab
        simp at hlab
    rw [h2]
    unfold dgB
    rw [decide_eq_true (by omega), Bool.and_true, Bool.true_and]
    exact Ev.now _
/-! ### Under -/
theorem host_small {s : ByteArray} (h : hostB s = true) : s.size ≤ 80 := by
  unfold hostB at h
  by_cases c : (s.size : Int) > 80
  · rw [if_pos c] at h
    cases h
  · omega
def underT (b h : List UInt8) : Bool := if b.length < h.length then decide (h.drop (h.length - (1 + b.length)) = 46 :: b) else false
def underB (b h : List UInt8) : Bool := if hostB (S b) = true then (if hostB (S h) = true then (if b = h then true else underT b h) else false) else false
theorem drop_at (h : List UInt8) (n : Nat) (hn : n < h.length) : h.drop n = h[n] :: h.drop (n + 1) := List.drop_eq_getElem_cons hn
theorem pt_append (b : List UInt8) : (⟨#[46]⟩ : ByteArray) ++ S b = S (46 :: b) := by
  apply ByteArray.ext
  rw [ByteArray.data_append]
  simp [S]
theorem under_impl (b h : List UInt8) (hb : b.length ≤ 1048576) (hh : h.length ≤ 1048576) : Ev (fun k => impl_Under.f k (S b) (S h)) (underB b h) := by
  unfold underB
  refine Ev.bind (host_impl (S b) (by rw [S_size]; omega)) (ev_ite (fun _ => Ev.bind (host_impl (S h) (by rw [S_size]; omega)) (ev_ite (fun _ => ?_) (fun _ => Ev.now _))) (fun _ => Ev.now _))
  rw [S_list, S_list]
  refine ev_ite (fun _ => Ev.now _) (fun hne => ev_pos (by rw [S_size]; omega) ?_)
  rw [pt_append]
  refine ev_bindc (a := underT b h) ?_ (Ev.now _)
  unfold strings_HasSuffix.f stringslite_HasSuffix.f underT
  rw [S_size, S_size, List.length_cons]
  by_cases c : b.length < h.length
  · have e1 : Aside0 (wrap64 ((h.length : Int) - ((b.length + 1 : Nat) : Int)) = ((h.length - (1 + b.length) : Nat) : Int)) := ⟨by rw [w64 (by omega) (by omega)]; omega⟩
    rw [if_pos c, if_pos (by omega), e1.out, if_pos (by omega), if_pos (by omega), Int.toNat_natCast, S_ext, S_list, S_list, List.take_length, bd]
    rfl
  · rw [if_neg c, if_neg (by omega)]
    rfl
/-! ### PatternOk -/
def starB (l : List UInt8) : Prop := l.take 2 = [42, 46]
instance (l : List UInt8) : Decidable (starB l) := inferInstanceAs (Decidable (_ = _))
theorem star_len {l : List UInt8} (h : starB l) : 2 ≤ l.length := by
  have := congrArg List.length h
  simp at this
  omega
theorem cutP_eq (l : List UInt8) : strings_CutPrefix.f (S l) (⟨#[42, 46]⟩ : ByteArray) = some (if starB l then (S (l.drop 2), true) else (S l, false)) := by
  unfold strings_CutPrefix.f stringslite_CutPrefix.f stringslite_HasPrefix.f
  rw [S_size, show (((⟨#[42, 46]⟩ : ByteArray).size : Nat) : Int) = 2 from rfl]
  by_cases c : (l.length : Int) ≥ 2
  · rw [if_pos c, if_pos (by decide), if_pos (by omega)]
    have e : ((S l).extract 0 (2 : Int).toNat).toList = l.take 2 := by rw [S_ext, S_list]; rfl
    have e2 : (⟨#[42, 46]⟩ : ByteArray).toList = [42, 46] := by rw [ByteArray.toList_eq]
    rw [e, e2]
    simp only [Option.bind_some]
    by_cases h : starB l
    · have hb : (l.take 2 == [42, 46]) = true := by rw [show l.take 2 = [42, 46] from h]; rfl
      rw [hb, if_pos rfl, if_pos h, if_pos (by decide), if_pos (by omega)]
      simp only [Option.bind_some]
      rw [S_ext, List.take_length]
      rfl
    · have hb : (l.take 2 == [42, 46]) = false := by simpa [starB] using h
      rw [hb, if_neg (by simp), if_neg h]
      rfl
  · rw [if_neg c]
    have h : ¬ starB l := fun h => by have := star_len h; omega
    rw [if_neg h]
    rfl
theorem contains_eq (l : List UInt8) : strings_Contains.f (S l) (⟨#[46]⟩ : ByteArray) = some (decide ((46 : UInt8) ∈ l)) := by
  unfold strings_Contains.f strings_Index.f
  rw [index_pt, S_dataList]
  simp only [Option.bind_some]
  rcases first_pt l with h | ⟨a, b, rfl, h2⟩
  · rw [ix_none l h]
    simp [h]
  · rw [ix_some a b h2]
    simp
def patB (l : List UInt8) : Bool := if starB l then (hostB (S (l.drop 2)) && decide ((46 : UInt8) ∈ l.drop 2)) else hostB (S l)
theorem host_none : hostB (S []) = false := by decide +kernel
theorem pat_impl (l : List UInt8) (hl : l.length ≤ 1048576) : Ev (fun k => impl_PatternOk.f k (S l)) (patB l) := by
  refine ev_bindc (cutP_eq l) ?_
  unfold patB
  by_cases h : starB l
  · rw [if_pos h, if_pos h]
    refine Ev.bind (host_impl _ (by rw [S_size]; simp; omega)) ?_
    cases hh : hostB (S (l.drop 2)) with
    | true =>
      refine ev_pos rfl (ev_pos rfl (ev_bindc (contains_eq _) ?_))
      rw [Bool.true_and]
      exact Ev.now _
    | false => exact ev_neg (by simp) (Ev.now _)
  · rw [if_neg h, if_neg h]
    refine Ev.bind (host_impl _ (by rw [S_size]; omega)) ?_
    cases hh : hostB (S l) with
    | true => exact ev_pos rfl (ev_neg (by simp) (Ev.now _))
    | false => exact ev_neg (by simp) (Ev.now _)
/-! ### HostMatch -/
def behind (l : List UInt8) : List UInt8 := (l.dropWhile (fun x => x != 46)).drop 1
theorem behind_some (a b : List UInt8) (h : (46 : UInt8) ∉ a) : behind (a ++ 46 :: b) = b := by
  have h1 : ∀ x ∈ a, (x != 46) = true := fun x hx => by
    simp only [bne_iff_ne, ne_eq]
    rintro rfl
    exact h hx
  unfold behind
  rw [List.dropWhile_append_of_pos h1]
  simp
theorem behind_none (a : List UInt8) (h : (46 : UInt8) ∉ a) : behind a = [] := by
  have h1 : ∀ x ∈ a, (x != 46) = true := fun x hx => by
    simp only [bne_iff_ne, ne_eq]
    rintro rfl
    exact h hx
  unfold behind
  rw [(dw_nil _ _).2 (List.all_eq_true.2 h1)]
  rfl
theorem cut_eq (l : List UInt8) (hl : l.length ≤ 1048576) : ∃ x b, strings_Cut.f (S l) (⟨#[46]⟩ : ByteArray) = some (x, S (behind l), b) := by
  unfold strings_Cut.f stringslite_Cut.f
  rw [index_pt, S_dataList]
  simp only [Option.bind_some]
  rcases first_pt l with h | ⟨a, b, rfl, h2⟩
  · rw [ix_none l h, if_neg (by decide), behind_none l h]
    exact ⟨_, _, rfl⟩
  · simp only [List.length_append, List.length_cons] at hl
    rw [ix_some a b h2, behind_some a b h2, if_pos (by omega), if_pos (by omega), if_pos (by rw [S_size]; simp; omega)]
    have e3 : wrap64 ((a.length : Int) + (((⟨#[46]⟩ : ByteArray).size : Nat) : Int)) = ((a.length + 1 : Nat) : Int) := by show wrap64 ((a.length : Int) + 1) = _; rw [w64 (by omega) (by omega)]; rfl
    rw [e3, if_pos (by omega), if_pos (by rw [S_size]; simp; omega), Int.toNat_natCast, Int.toNat_natCast, S_ext, S_ext, S_size, List.take_length]
    have q1 : (a ++ 46 :: b).drop (a.length + 1) = b := by
      rw [show a ++ 46 :: b = (a ++ [46]) ++ b by simp, show a.length + 1 = (a ++ [46]).length by simp, List.drop_left]
    rw [q1]
    exact ⟨_, _, rfl⟩
def matchT (p h : List UInt8) : Bool := if starB p then decide ((46 : UInt8) ∈ h ∧ behind h = p.drop 2) else decide (p = h)
def matchB (p h : List UInt8) : Bool := if patB p = true then (if hostB (S h) = true then matchT p h else false) else false
theorem pat_star {p : List UInt8} (hp : patB p = true) (h : starB p) : (46 : UInt8) ∈ p.drop 2 ∧ 2 < p.length := by
  unfold patB at hp
  rw [if_pos h] at hp
  have := (Bool.and_eq_true_iff.1 hp).2
  have := of_decide_eq_true this
  refine ⟨this, ?_⟩
  have h2 := List.length_pos_of_mem this
  rw [List.length_drop] at h2
  omega
theorem match_impl (p h : List UInt8) (hp : p.length ≤ 1048576) (hh : h.length ≤ 1048576) : Ev (fun k => impl_HostMatch.f k (S p) (S h)) (matchB p h) := by
  unfold matchB
  refine Ev.bind (pat_impl p hp) (ev_ite (fun hpat => Ev.bind (host_impl (S h) (by rw [S_size]; omega)) (ev_ite (fun hhost => ev_bindc (a := matchT p h) ?_ (Ev.now _)) (fun _ => Ev.now _))) (fun _ => Ev.now _))
  unfold impl_matches.f matchT
  rw [cutP_eq]
  simp only [Option.bind_some]
  by_cases hs : starB p
  · obtain ⟨hm, hl2⟩ := pat_star hpat hs
    obtain ⟨x, b, e⟩ := cut_eq h hh
    rw [if_pos hs, if_pos hs, if_pos rfl, e]
    simp only [Option.bind_some]
    rw [S_list, S_list]
    congr 1
    rw [Bool.eq_iff_iff, beq_iff_eq, decide_eq_true_eq]
    constructor
    · intro q
      refine ⟨?_, q⟩
      rcases first_pt h with hn | ⟨a, b', rfl, _⟩
      · rw [behind_none h hn] at q
        rw [← q] at hm
        cases hm
      · simp
    · exact fun q => q.2
  · rw [if_neg hs, if_neg hs, if_neg (by simp), S_list, S_list, bd]
theorem pickS_some {l : List Int} {p : Int} (h : At l p) (s : Int) (xs : List ByteArray) (h0 : 0 < xs.length) (h1 : xs.length ≤ 1048576) (hx : ∀ x ∈ xs, x.size ≤ 100) : ∃ v p' s', spec_l1Pick.f l p s xs = some (v, p', s') ∧ At l p' ∧ v.size ≤ 100 := by
  unfold spec_l1Pick.f
  obtain ⟨v, p', s', e, r0, r1, h'⟩ := below_some h s (xs.length : Int) (by omega) (by omega)
  rw [e]
  simp only [Option.bind_some]
  rw [if_pos r0, if_pos r1]
  exact ⟨_, _, _, rfl, h', hx _ (rdOf_mem r0 r1)⟩
theorem drawHost_some {l : List Int} {p : Int} (h : At l p) (s : Int) : ∃ v p' s', Ev (fun k => spec_l8DrawHost.f k l p s) (v, p', s') ∧ At l p' ∧ v.size ≤ 1000 := by
  have l0 : ∀ (d : Nat) (x : ByteArray) (p s : Int), At l p → x.size + 110 * d ≤ 800 → ∃ v p' s', Ev (fun k => spec_l8DrawHost.l0 k x (d : Int) l p s) (v, p', s') ∧ At l p' ∧ v.size ≤ 1000 := by
    intro d
    induction d with
    | zero =>
      intro x p s h hx
      obtain ⟨v, p1, s1, e1, h1, v1⟩ := pickS_some h s [(⟨#[111, 114, 103]⟩ : ByteArray), (⟨#[116, 101, 115, 116]⟩ : ByteArray), (⟨#[110, 101, 116]⟩ : ByteArray)] (by decide) (by decide) (by decide)
      have es : (x ++ (⟨#[46]⟩ : ByteArray)).size = x.size + 1 := by rw [ByteArray.size_append]; rfl
      refine ⟨_, _, _, Ev.step (fun k => spec_l8DrawHost.l0.eq_2 _ _ _ _ _ _) (ev_neg (by omega) (ev_pos (by omega) (ev_bindc e1 (ev_pos (show (x ++ (⟨#[46]⟩ : ByteArray)).size + v.size ≤ 9223372036854775807 by omega) (Ev.now _))))), h1, ?_⟩
      rw [ByteArray.size_append, es]
      show x.size + 1 + v.size ≤ 1000
      omega
    | succ d ih =>
      intro x p s h hx
      obtain ⟨v, p1, s1, e1, h1, v1⟩ := pickS_some h s [(⟨#[97]⟩ : ByteArray), (⟨#[98]⟩ : ByteArray), (⟨#[101, 120, 97, 109, 112, 108, 101]⟩ : ByteArray), (⟨#[119, 51]⟩ : ByteArray), (⟨#[120, 45, 121]⟩ : ByteArray)] (by decide) (by decide) (by decide)
      have es : (x ++ (⟨#[46]⟩ : ByteArray)).size = x.size + 1 := by rw [ByteArray.size_append]; rfl
      obtain ⟨y, p3, s3, e3, h3, y3⟩ := ih ((x ++ (⟨#[46]⟩ : ByteArray)) ++ v) p1 s1 h1 (by rw [ByteArray.size_append, es]; omega)
      refine ⟨y, p3, s3, Ev.step (fun k => spec_l8DrawHost.l0.eq_2 _ _ _ _ _ _) (ev_pos (by omega) (ev_pos (by omega) (ev_bindc e1 (ev_pos (show (x ++ (⟨#[46]⟩ : ByteArray)).size + v.size ≤ 9223372036854775807 by omega) ?_)))), h3, y3⟩
      rw [show wrap64 (((d + 1 : Nat) : Int) - 1) = (d : Int) by rw [w64 (by omega) (by omega)]; omega]
      exact e3
  obtain ⟨v, p1, s1, e1, h1, v1⟩ := pickS_some h s [(⟨#[97]⟩ : ByteArray), (⟨#[119, 119, 119]⟩ : ByteArray), (⟨#[109, 97, 105, 108]⟩ : ByteArray), (⟨#[120, 49]⟩ : ByteArray), (⟨#[98, 45, 99]⟩ : ByteArray)] (by decide) (by decide) (by decide)
  obtain ⟨n, p2, s2, e2, r0, r1, h2⟩ := below_some h1 s1 3 (by omega) (by omega)
  obtain ⟨y, p3, s3, e3, h3, y3⟩ := l0 n.toNat v p2 s2 h2 (by omega)
  rw [Int.toNat_of_nonneg r0] at e3
  exact ⟨y, p3, s3, ev_bindc e1 (ev_bindc e2 e3), h3, y3⟩
theorem drawAny_some {l : List Int} {p : Int} (h : At l p) (s : Int) : ∃ v p' s', Ev (fun k => spec_l8DrawAny.f k l p s) (v, p', s') ∧ At l p' ∧ v.size ≤ 2000 := by
  obtain ⟨n, p1, s1, e1, r0, r1, h1⟩ := below_some h s 8 (by omega) (by omega)
  by_cases c0 : n = 0
  · obtain ⟨v, p2, s2, e2, h2, v2⟩ := pickS_some h1 s1 [(⟨#[]⟩ : ByteArray), (⟨#[46]⟩ : ByteArray), (⟨#[97, 46, 46, 98]⟩ : ByteArray), (⟨#[45, 97, 46, 111, 114, 103]⟩ : ByteArray), (⟨#[97, 45, 46, 111, 114, 103]⟩ : ByteArray), (⟨#[65, 46, 111, 114, 103]⟩ : ByteArray), (⟨#[97, 46, 49]⟩ : ByteArray), (⟨#[49, 46, 97]⟩ : ByteArray), (⟨#[97, 32, 98, 46, 111, 114, 103]⟩ : ByteArray), (⟨#[97, 98, 99, 100, 101, 102, 103, 104, 105, 106, 107, 108, 109, 110, 111, 112, 113, 114, 115, 116, 46, 111, 114, 103]⟩ : ByteArray), (⟨#[97, 98, 99, 100, 101, 102, 103, 104, 105, 106, 107, 108, 109, 110, 111, 112, 113, 114, 115, 116, 117, 46, 111, 114, 103]⟩ : ByteArray), (⟨#[97, 46, 98, 46, 99, 46, 100, 46, 101, 46, 102, 46, 103, 46, 104]⟩ : ByteArray), (⟨#[97, 46, 98, 46, 99, 46, 100, 46, 101, 46, 102, 46, 103, 46, 104, 46, 105]⟩ : ByteArray), (⟨#[111, 114, 103]⟩ : ByteArray), (⟨#[42]⟩ : ByteArray), (⟨#[42, 46]⟩ : ByteArray), (⟨#[42, 46, 111, 114, 103]⟩ : ByteArray), (⟨#[42, 46, 97, 46, 111, 114, 103]⟩ : ByteArray), (⟨#[97, 46, 42, 46, 111, 114, 103]⟩ : ByteArray), (⟨#[42, 42, 46, 97, 46, 111, 114, 103]⟩ : ByteArray), (⟨#[49, 57, 50, 46, 48, 46, 50, 46, 49]⟩ : ByteArray)] (by decide) (by decide) (by decide)
    exact ⟨_, _, _, ev_bindc e1 (ev_pos c0 (ev_bindc e2 (Ev.now _))), h2, by show v.size ≤ 2000; omega⟩
  obtain ⟨v, p2, s2, e2, h2, v2⟩ := drawHost_some h1 s1
  by_cases c1 : n = 1
  · refine ⟨_, _, _, ev_bindc e1 (ev_neg c0 (ev_pos c1 (Ev.bind e2 (ev_pos (show 2 + v.size ≤ 9223372036854775807 by omega) (Ev.now _))))), h2, ?_⟩
    show ((⟨#[42, 46]⟩ : ByteArray) ++ v).size ≤ 2000
    rw [ByteArray.size_append]
    show 2 + v.size ≤ 2000
    omega
  · exact ⟨_, _, _, ev_bindc e1 (ev_neg c0 (ev_neg c1 (Ev.bind e2 (Ev.now _)))), h2, by show v.size ≤ 2000; omega⟩
theorem lit_app (a : List UInt8) (s : ByteArray) : (S a ++ s).size = a.length + s.size := by rw [ByteArray.size_append, S_size]
theorem drawHM (l : List Int) (hl : l.length ≤ 1048576) : ∃ p h : ByteArray, Ev (fun k => spec_DrawHostMatch.f k l) (p, h) ∧ p.size ≤ 10000 ∧ h.size ≤ 10000 := by
  obtain ⟨s, hn⟩ := new_ev l hl
  obtain ⟨v, p1, s1, e1, h1, v1⟩ := drawAny_some (l := l) (p := 0) ⟨hl, by omega, by omega⟩ s
  obtain ⟨n, p2, s2, e2, r0, r1, h2⟩ := below_some h1 s1 5 (by omega) (by omega)
  by_cases c0 : n = 0
  · exact ⟨v, v, Ev.bind hn (Ev.bind e1 (ev_bindc e2 (ev_pos c0 (Ev.now _)))), by omega, by omega⟩
  have z2 : ((⟨#[42, 46]⟩ : ByteArray) ++ v).size = 2 + v.size := lit_app [42, 46] v
  by_cases c1 : n = 1
  · obtain ⟨x, p3, s3, e3, h3, x3⟩ := pickS_some h2 s2 [(⟨#[120]⟩ : ByteArray), (⟨#[119, 119, 119]⟩ : ByteArray), (⟨#[97, 46, 98]⟩ : ByteArray), (⟨#[]⟩ : ByteArray)] (by decide) (by decide) (by decide)
    have es : (x ++ (⟨#[46]⟩ : ByteArray)).size = x.size + 1 := by rw [ByteArray.size_append]; rfl
    refine ⟨(⟨#[42, 46]⟩ : ByteArray) ++ v, (x ++ (⟨#[46]⟩ : ByteArray)) ++ v, Ev.bind hn (Ev.bind e1 (ev_bindc e2 (ev_neg c0 (ev_pos c1 (ev_pos (show 2 + v.size ≤ 9223372036854775807 by omega) (ev_bindc e3 (ev_pos (show x.size + 1 ≤ 9223372036854775807 by omega) (ev_pos (show (x ++ (⟨#[46]⟩ : ByteArray)).size + v.size ≤ 9223372036854775807 by omega) (Ev.now _))))))))), by omega, ?_⟩
    rw [ByteArray.size_append, es]
    omega
  by_cases c2 : n = 2
  · exact ⟨(⟨#[42, 46]⟩ : ByteArray) ++ v, v, Ev.bind hn (Ev.bind e1 (ev_bindc e2 (ev_neg c0 (ev_neg c1 (ev_pos c2 (ev_pos (show 2 + v.size ≤ 9223372036854775807 by omega) (Ev.now _))))))), by omega, by omega⟩
  · obtain ⟨x, p3, s3, e3, h3, x3⟩ := drawAny_some h2 s2
    exact ⟨x, v, Ev.bind hn (Ev.bind e1 (ev_bindc e2 (ev_neg c0 (ev_neg c1 (ev_neg c2 (Ev.bind e3 (Ev.now _))))))), by omega, by omega⟩
theorem drawU (l : List Int) (hl : l.length ≤ 1048576) : ∃ p h : ByteArray, Ev (fun k => spec_DrawUnder.f k l) (p, h) ∧ p.size ≤ 10000 ∧ h.size ≤ 10000 := by
  obtain ⟨s, hn⟩ := new_ev l hl
  obtain ⟨v, p1, s1, e1, h1, v1⟩ := drawAny_some (l := l) (p := 0) ⟨hl, by omega, by omega⟩ s
  obtain ⟨n, p2, s2, e2, r0, r1, h2⟩ := below_some h1 s1 4 (by omega) (by omega)
  by_cases c0 : n = 0
  · exact ⟨v, v, Ev.bind hn (Ev.bind e1 (ev_bindc e2 (ev_pos c0 (Ev.now _)))), by omega, by omega⟩
  have z2 : ((⟨#[119, 119, 119, 46]⟩ : ByteArray) ++ v).size = 4 + v.size := lit_app [119, 119, 119, 46] v
  have z3 : ((⟨#[120]⟩ : ByteArray) ++ v).size = 1 + v.size := lit_app [120] v
  by_cases c1 : n = 1
  · exact ⟨v, (⟨#[119, 119, 119, 46]⟩ : ByteArray) ++ v, Ev.bind hn (Ev.bind e1 (ev_bindc e2 (ev_neg c0 (ev_pos c1 (ev_pos (show 4 + v.size ≤ 9223372036854775807 by omega) (Ev.now _)))))), by omega, by omega⟩
  by_cases c2 : n = 2
  · exact ⟨v, (⟨#[120]⟩ : ByteArray) ++ v, Ev.bind hn (Ev.bind e1 (ev_bindc e2 (ev_neg c0 (ev_neg c1 (ev_pos c2 (ev_pos (show 1 + v.size ≤ 9223372036854775807 by omega) (Ev.now _))))))), by omega, by omega⟩
  · obtain ⟨x, p3, s3, e3, h3, x3⟩ := drawAny_some h2 s2
    exact ⟨x, v, Ev.bind hn (Ev.bind e1 (ev_bindc e2 (ev_neg c0 (ev_neg c1 (ev_neg c2 (Ev.bind e3 (Ev.now _))))))), by omega, by omega⟩
/-! ### what a host's bytes are -/
theorem mem_spl (l : List UInt8) : ∀ b ∈ l, b = 46 ∨ ∃ x ∈ spl l, b ∈ x := by
  induction l with
  | nil => intro b hb; cases hb
  | cons a l ih =>
    intro b hb
    rw [spl]
    by_cases c : a = 46
    · rw [if_pos c]
      rcases List.mem_cons.1 hb with rfl | hb
      · exact .inl c
      · rcases ih b hb with h | ⟨x, hx, h⟩
        · exact .inl h
        · exact .inr ⟨x, List.mem_cons_of_mem _ hx, h⟩
    · rw [if_neg c]
      have hne := spl_ne l
      cases e : spl l with
      | nil => exact absurd e hne
      | cons q t =>
        simp only [List.headD_cons, List.tail_cons]
        rcases List.mem_cons.1 hb with rfl | hb
        · exact .inr ⟨_, List.mem_cons_self .., by simp⟩
        · rcases ih b hb with h | ⟨x, hx, h⟩
          · exact .inl h
          · rw [e] at hx
            rcases List.mem_cons.1 hx with rfl | hx
            · exact .inr ⟨_, List.mem_cons_self .., List.mem_cons_of_mem _ h⟩
            · exact .inr ⟨x, List.mem_cons_of_mem _ hx, h⟩
theorem lab_okc {x : List UInt8} (h : labB (S x) = true) : ∀ b ∈ x, okc ((b.toNat : Nat) : Int) = true := by
  intro b hb
  unfold labB at h
  have h1 := List.all_eq_true.1 (Bool.and_eq_true_iff.1 h).1
  obtain ⟨i, hi, rfl⟩ := List.mem_iff_getElem.1 hb
  have := h1 i (List.mem_range.2 (by rw [S_size]; exact hi))
  rw [S_bt _ _ hi] at this
  exact this
theorem host_labs {l : List UInt8} (h : hostB (S l) = true) : ∀ x ∈ spl l, labB (S x) = true := by
  intro x hx
  unfold hostB at h
  by_cases c : ((S l).size : Int) > 80
  · rw [if_pos c] at h
    cases h
  rw [if_neg c] at h
  have h1 := (Bool.and_eq_true_iff.1 h).1
  unfold allLab at h1
  have hm : S x ∈ prt (S l) := by unfold prt; rw [S_dataList]; exact List.mem_map.2 ⟨x, hx, rfl⟩
  obtain ⟨i, hi, e⟩ := List.mem_iff_getElem.1 hm
  have := List.all_eq_true.1 h1 i (List.mem_range.2 hi)
  simp only [rdOf, Int.toNat_natCast, List.getD_eq_getElem?_getD, List.getElem?_eq_getElem hi, Option.getD_some, e] at this
  exact this
theorem host_bytes {l : List UInt8} (h : hostB (S l) = true) : ∀ b ∈ l, b = 46 ∨ okc ((b.toNat : Nat) : Int) = true := by
  intro b hb
  rcases mem_spl l b hb with e | ⟨x, hx, hm⟩
  · exact .inl e
  · exact .inr (lab_okc (host_labs h x hx) b hm)
theorem host_nostar {l : List UInt8} (h : hostB (S l) = true) : ¬ starB l := by
  intro hs
  have h2 := star_len hs
  have : l = [42, 46] ++ l.drop 2 := by rw [← show l.take 2 = [42, 46] from hs, List.take_append_drop]
  have hm : (42 : UInt8) ∈ l := by rw [this]; simp
  rcases host_bytes h 42 hm with e | e
  · exact absurd e (by decide)
  · exact absurd e (by decide)
theorem low_host {l : List UInt8} (h : hostB (S l) = true) : Hand.impl_Lower.f (S l) = some (S l) := by
  have hl := host_small h
  unfold Hand.impl_Lower.f
  rw [if_pos (by omega)]
  congr 1
  have e : (bytesOf (S l)).map Hand.low = (bytesOf (S l)).map id := by
    apply List.map_congr_left
    intro x hx
    show Hand.low x = x
    unfold bytesOf at hx
    rw [S_dataList] at hx
    obtain ⟨b, hb, rfl⟩ := List.mem_map.1 hx
    unfold Hand.low
    rcases host_bytes h b hb with rfl | q
    · rw [if_neg (by decide)]
    · have := of_decide_eq_true q
      rw [if_neg (by omega)]
  rw [e, List.map_id]
  apply ByteArray.ext
  unfold strOfNums bytesOf
  apply Array.ext'
  rw [S_dataList]
  simp only [List.map_map]
  show l.map _ = l
  conv => rhs; rw [← List.map_id l]
  congr 1
  funext b
  simp
theorem match_no1 {p h : List UInt8} (hs : starB p) (hb : behind h = p.drop 2) (hm : (46 : UInt8) ∈ h) : matchB p (120 :: 46 :: h) = false := by
  unfold matchB matchT
  by_cases c : patB p = true
  · rw [if_pos c]
    by_cases c2 : hostB (S (120 :: 46 :: h)) = true
    · rw [if_pos c2, if_pos hs, decide_eq_false]
      rintro ⟨_, q⟩
      have e : behind (120 :: 46 :: h) = h := behind_some [120] h (by decide)
      rw [e, ← hb] at q
      obtain ⟨a, b, e2, hn⟩ := List.eq_append_cons_of_mem hm
      have e3 : behind h = b := by rw [e2]; exact behind_some a b hn
      rw [e3] at q
      have := congrArg List.length (q.symm.trans e2)
      simp at this
      omega
    · rw [if_neg c2]
  · rw [if_neg c]
theorem match_no2 {p : List UInt8} (hs : starB p) : matchB p (p.drop 2) = false := by
  unfold matchB matchT
  by_cases c : patB p = true
  · rw [if_pos c]
    by_cases c2 : hostB (S (p.drop 2)) = true
    · rw [if_pos c2, if_pos hs, decide_eq_false]
      rintro ⟨hm, q⟩
      generalize p.drop 2 = d at hm q
      obtain ⟨a, b, e2, hn⟩ := List.eq_append_cons_of_mem hm
      rw [e2, behind_some a b hn] at q
      have := congrArg List.length q
      simp at this
      omega
    · rw [if_neg c2]
  · rw [if_neg c]
theorem under_self {l : List UInt8} (h : hostB (S l) = true) : underB l l = true := by unfold underB; rw [if_pos h, if_pos h, if_pos rfl]
theorem match_self {l : List UInt8} (h : hostB (S l) = true) : matchB l l = true := by
  have hn := host_nostar h
  have hp : patB l = true := by unfold patB; rw [if_neg hn]; exact h
  unfold matchB matchT
  rw [if_pos hp, if_pos h, if_neg hn]
  exact decide_eq_true rfl
theorem host_lit : hostB (S [97, 46, 111, 114, 103]) = true := by decide +kernel
theorem low_lit : ∃ t, Hand.impl_Lower.f (⟨#[65, 46, 90]⟩ : ByteArray) = some t ∧ (t.toList == ([97, 46, 122] : List UInt8)) = true := by
  refine ⟨strOfNums [97, 46, 122], ?_, ?_⟩
  · decide +kernel
  · decide +kernel
theorem FnHosts : laws_FnHosts.Pure := by
  intro l _ _ _
  by_cases c0 : (l.length : Int) > 1048576
  · exact ev_k (ev_bindc (show laws_big.f l = some true by unfold laws_big.f; rw [decide_eq_true c0]) (ev_pos rfl (Ev.now _)))
  have hl : l.length ≤ 1048576 := by omega
  obtain ⟨p', h', hd, p9, h9⟩ := drawHM l hl
  obtain ⟨b', u', hdu, b9, u9⟩ := drawU l hl
  obtain ⟨p, rfl⟩ : ∃ p, p' = S p := ⟨_, (S_data p').symm⟩
  obtain ⟨h, rfl⟩ : ∃ h, h' = S h := ⟨_, (S_data h').symm⟩
  obtain ⟨b, rfl⟩ : ∃ b, b' = S b := ⟨_, (S_data b').symm⟩
  obtain ⟨u, rfl⟩ : ∃ u, u' = S u := ⟨_, (S_data u').symm⟩
  rw [S_size] at p9 h9 b9 u9
  have j4 : Ev (fun k => laws_FnHosts.j4 k false) true := by
    have e1 := host_impl (S [97, 46, 111, 114, 103]) (by decide)
    rw [host_lit] at e1
    have e2 := host_impl (S []) (by decide)
    rw [host_none] at e2
    obtain ⟨t, e3, e4⟩ := low_lit
    refine Ev.step (fun k => laws_FnHosts.j4.eq_2 _ _) (ev_neg (by simp) (Ev.bind e1 (ev_pos rfl (Ev.bind e2 (ev_neg (by simp) (ev_bindc e3 ?_))))))
    rw [e4]
    exact Ev.now _
  have j3 : Ev (fun k => laws_FnHosts.j3 k l false) true := by
    refine Ev.step (fun k => laws_FnHosts.j3.eq_2 _ _ _) (ev_neg (by simp) (Ev.bind hdu (Ev.bind (under_impl b u (by omega) (by omega)) ?_)))
    cases c : underB b u with
    | false => exact ev_neg (by simp) j4
    | true =>
      refine ev_pos rfl ?_
      rw [S_list, S_list]
      by_cases e : b = u
      · exact ev_pos e j4
      · have no : underB u b = false := by
          unfold underB at c ⊢
          by_cases c1 : hostB (S b) = true
          · rw [if_pos c1] at c
            by_cases c2 : hostB (S u) = true
            · rw [if_pos c2, if_neg e] at c
              rw [if_pos c2, if_pos c1, if_neg (fun q => e q.symm)]
              unfold underT at c ⊢
              by_cases c3 : b.length < u.length
              · rw [if_neg (by omega)]
              · rw [if_neg c3] at c
                cases c
            · rw [if_neg c2] at c
              cases c
          · rw [if_neg c1] at c
            cases c
        have := under_impl u b (by omega) (by omega)
        rw [no] at this
        exact ev_neg e (Ev.bind this j4)
  have j2 : Ev (fun k => laws_FnHosts.j2 k l (S h)) true := by
    refine Ev.step (fun k => laws_FnHosts.j2.eq_2 _ _ _) (Ev.bind (host_impl (S h) (by rw [S_size]; omega)) ?_)
    cases c : hostB (S h) with
    | false => exact ev_neg (by simp) j3
    | true =>
      have e1 := under_impl h h (by omega) (by omega)
      rw [under_self c] at e1
      have e2 := match_impl h h (by omega) (by omega)
      rw [match_self c] at e2
      refine ev_pos rfl (Ev.bind e1 (ev_pos rfl (Ev.bind e2 (ev_pos rfl (ev_bindc (low_host c) ?_)))))
      rw [show ((S h).toList != (S h).toList) = false from bne_self_eq_false _]
      exact j3
  have e1 := match_impl p h (by omega) (by omega)
  have fin0 : ∀ b2, Ev (fun k => laws_FnHosts.j1 k l (S p) (S h) b2) true → True := fun _ _ => trivial
  have j1f : Ev (fun k => laws_FnHosts.j1 k l (S p) (S h) false) true := Ev.step (fun k => laws_FnHosts.j1.eq_2 _ _ _ _ _) (ev_neg (by simp) j2)
  refine ev_k (ev_bindc (show laws_big.f l = some false by unfold laws_big.f; rw [decide_eq_false c0]) (ev_neg (by simp) (Ev.bind hd (Ev.bind e1 ?_))))
  cases c : matchB p h with
  | false => exact ev_neg (by simp) (Ev.step (fun k => laws_FnHosts.j0.eq_2 _ _ _ _ _ _) (ev_neg (by simp) (ev_neg (by simp) j1f)))
  | true =>
    have c' := c
    unfold matchB at c'
    by_cases cp : patB p = true
    · rw [if_pos cp] at c'
      by_cases ch : hostB (S h) = true
      · rw [if_pos ch] at c'
        have ep := pat_impl p (by omega)
        rw [cp] at ep
        have eh := host_impl (S h) (by rw [S_size]; omega)
        rw [ch] at eh
        refine ev_pos rfl (Ev.bind ep (ev_pos rfl (Ev.bind eh ?_)))
        refine Ev.step (fun k => laws_FnHosts.j0.eq_2 _ _ _ _ _ _) (ev_neg (by simp) (ev_pos rfl ?_))
        rw [S_size]
        by_cases c3 : (p.length : Int) > 2
        · refine ev_pos c3 (ev_pos (by decide) (ev_pos (by omega) ?_))
          have e : ((S p).extract 0 2).toList = p.take 2 := by rw [S_ext, S_list]; rfl
          rw [e]
          by_cases hs : starB p
          · have hb : (p.take 2 == [42, 46]) = true := by rw [show p.take 2 = [42, 46] from hs]; rfl
            rw [hb]
            unfold matchT at c'
            rw [if_pos hs] at c'
            obtain ⟨hm, hbe⟩ := of_decide_eq_true c'
            have ex : (S p).extract 2 (S p).size = S (p.drop 2) := by rw [S_ext, S_size, List.take_length]
            have hdl : (p.drop 2).length ≤ 1048576 := by rw [List.length_drop]; omega
            obtain ⟨a, b2, e2, hn⟩ := List.eq_append_cons_of_mem hm
            have e3 : p.drop 2 = b2 := by rw [← hbe, e2]; exact behind_some a b2 hn
            have hne : ¬ p.drop 2 = h := by
              intro q
              have := congrArg List.length (e3.symm.trans (q.trans e2))
              simp at this
              omega
            have hhost : hostB (S (p.drop 2)) = true := by
              unfold patB at cp
              rw [if_pos hs] at cp
              exact (Bool.and_eq_true_iff.1 cp).1
            have hu : underB (p.drop 2) h = true := by
              unfold underB underT
              rw [if_pos hhost, if_pos ch, if_neg hne]
              have hlen : h.length = a.length + (1 + (p.drop 2).length) := by rw [e3, e2]; simp; omega
              rw [if_pos (by omega), decide_eq_true]
              rw [show h.length - (1 + (p.drop 2).length) = a.length by omega, e3]
              conv => lhs; rw [e2]
              rw [List.drop_left]
            have eu := under_impl (p.drop 2) h hdl (by omega)
            rw [hu] at eu
            have m1 := match_impl p (120 :: 46 :: h) (by omega) (by simp; omega)
            rw [match_no1 hs hbe hm] at m1
            have m2 := match_impl p (p.drop 2) (by omega) hdl
            rw [match_no2 hs] at m2
            refine Ev.step (fun k => laws_FnHosts.j1.eq_2 _ _ _ _ _) (ev_pos rfl (ev_pos (by rw [S_size]; omega) ?_))
            rw [ex, S_list, S_list]
            refine Ev.bind eu (ev_pos rfl (ev_neg hne (ev_pos (by rw [S_size]; omega) ?_)))
            have ea : (⟨#[120, 46]⟩ : ByteArray) ++ S h = S (120 :: 46 :: h) := by
              apply ByteArray.ext
              rw [ByteArray.data_append]
              simp [S]
            rw [ea]
            exact Ev.bind m1 (ev_neg (by simp) (Ev.bind m2 (ev_neg (by simp) j2)))
          · have hb : (p.take 2 == [42, 46]) = false := by simpa [starB] using hs
            rw [hb]
            exact j1f
        · exact ev_neg c3 j1f
      · rw [if_neg ch] at c'
        cases c'
    · rw [if_neg cp] at c'
      cases c'

end Go.Proofs.YthfaelbkdhhmdaaDoor.Pure
