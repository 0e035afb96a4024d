/- Small facts about rounds, wrap-round, lists and the laws' own helpers (copy, compare, mark, held), shared by this seat's pure proofs. -/
import Derived.Test.YtgfhbkhbnmgogaaWMore
import Derived.Test.YtgfhbkhbnmgogaaWSized
import Derived.Laws.BitsLemmas
import Derived.OpenShut
namespace Go.Proofs.Ytgfhbkhbnmgogaa.Base
open Go.RowKit Go.Proofs.YtgfhbkhbnmgogaaW.PrintWords

/-! ### numbers -/
theorem w64 {x : Int} (h0 : -9223372036854775808 ≤ x) (h1 : x ≤ 9223372036854775807) : wrap64 x = x := by unfold wrap64; omega
theorem w64_range (x : Int) : -9223372036854775808 ≤ wrap64 x ∧ wrap64 x ≤ 9223372036854775807 := by unfold wrap64; omega
theorem wf64 {x : Int} (h : (Lit.int .i64 x).wf = true) : -9223372036854775808 ≤ x ∧ x ≤ 9223372036854775807 := by
  simp [Lit.wf, IntKind.min, IntKind.max, IntKind.signed, IntKind.bits] at h; omega
theorem wf8 {x : Int} (h : (Lit.int .u8 x).wf = true) : 0 ≤ x ∧ x ≤ 255 := by
  simp [Lit.wf, IntKind.min, IntKind.max, IntKind.signed, IntKind.bits] at h; omega

theorem wf_of {x : Int} (h0 : -9223372036854775808 ≤ x) (h1 : x ≤ 9223372036854775807) : (Lit.int .i64 x).wf = true := by
  simp [Lit.wf, IntKind.min, IntKind.max, IntKind.signed, IntKind.bits]; omega

/-! ### rounds -/
section
variable {α β : Type}
theorem ev_pos {c : Prop} [Decidable c] {f g : Nat → Option α} {r : α} (h : c) (k : Ev f r) : Ev (fun n => if c then f n else g n) r := by
  rw [show (fun n => if c then f n else g n) = f from funext fun n => if_pos h]; exact k
theorem ev_neg {c : Prop} [Decidable c] {f g : Nat → Option α} {r : α} (h : ¬ c) (k : Ev g r) : Ev (fun n => if c then f n else g n) r := by
  rw [show (fun n => if c then f n else g n) = g from funext fun n => if_neg h]; exact k
theorem ev_ite {c : Prop} [Decidable c] {f g : Nat → Option α} {r s : α} (h : c → Ev f r) (k : ¬ c → Ev g s) : Ev (fun n => if c then f n else g n) (if c then r else s) := by
  by_cases hc : c
  · rw [if_pos hc]; exact ev_pos hc (h hc)
  · rw [if_neg hc]; exact ev_neg hc (k hc)
theorem ev_eq {g : Nat → Option α} {r : α} (h : ∀ k, g k = some r) : Ev g r := ⟨0, fun k _ => h k⟩
theorem ev_const {o : Option α} {r : α} (h : o = some r) : Ev (fun _ => o) r := ⟨0, fun _ _ => h⟩
theorem ev_k {g : Nat → Option α} {r : α} (h : Ev g r) : ∃ k, g k = some r := h.rounds
theorem ev_bindc {o : Option α} {f : Nat → α → Option β} {a : α} {r : β} (h : o = some a) (k : Ev (fun n => f n a) r) : Ev (fun n => o.bind (f n)) r := Ev.bind (ev_const h) k
theorem ev_uniq {g : Nat → Option α} {r s : α} (h : Ev g r) (h' : Ev g s) : r = s := by
  obtain ⟨K, h⟩ := h; obtain ⟨K', h'⟩ := h'
  have a := h (K + K') (by omega); have b := h' (K + K') (by omega)
  rw [a] at b; exact Option.some.inj b
end

/-! ### lists -/
theorem rd_nat (xs : List Int) (i : Nat) : rd xs (i : Int) = xs.getD i 0 := by simp [rd]
theorem rd_mem {xs : List Int} {i : Int} (h0 : 0 ≤ i) (h1 : i < (xs.length : Int)) : rd xs i ∈ xs := by
  obtain ⟨n, rfl⟩ := Int.eq_ofNat_of_zero_le h0
  have : n < xs.length := by omega
  simp [rd, this]

/-! ### copy, compare, mark, held -/
theorem copy_ev {L : Nat → List Int → List Int → Int → Option (List Int)}
    (hL : ∀ k x0 x3 x4, L (k + 1) x0 x3 x4 = if x4 < (x0.length : Int) then (if 0 ≤ x4 then (if x4 < (x3.length : Int) then (L k x0 (x3.set (x4 : Int).toNat (rd x0 x4)) (wrap64 (x4 + 1))) else none) else none) else some x3)
    (x0 : List Int) (hx : x0.length ≤ 1099511627776) :
    Ev (fun k => L k x0 (List.replicate x0.length 0) 0) x0 := by
  have key : ∀ (d i : Nat) (x3 : List Int), i + d = x0.length → x3.length = x0.length → (∀ j, j < i → x3[j]? = x0[j]?) → Ev (fun k => L k x0 x3 (i : Int)) x0 := by
    intro d
    induction d with
    | zero =>
      intro i x3 hi hl hj
      refine Ev.step (fun k => hL k _ _ _) (ev_neg (by omega) ?_)
      have : x3 = x0 := by
        apply List.ext_getElem? ; intro j
        by_cases hji : j < i
        · exact hj j hji
        · rw [List.getElem?_eq_none (by omega), List.getElem?_eq_none (by omega)]
      rw [this]; exact Ev.now _
    | succ d ih =>
      intro i x3 hi hl hj
      refine Ev.step (fun k => hL k _ _ _) (ev_pos (by omega) (ev_pos (by omega) (ev_pos (by omega) ?_)))
      rw [w64 (by omega) (by omega)]
      refine ih (i + 1) _ (by omega) (by simp [hl]) ?_
      intro j hj'
      rw [List.getElem?_set]
      by_cases e : i = j
      · subst e
        simp [rd, hl, show i < x0.length by omega]
      · rw [if_neg (by simpa using e)]
        exact hj j (by omega)
  exact key x0.length 0 _ (by omega) (by simp) (by intro j hj; omega)

theorem eq_ev {L : Nat → List Int → List Int → Int → Option Bool}
    (hL : ∀ k x0 x1 x5, L (k + 1) x0 x1 x5 = if x5 < (x0.length : Int) then (if 0 ≤ x5 then (if x5 < (x1.length : Int) then (if (rd x0 x5) = (rd x1 x5) then (L k x0 x1 (wrap64 (x5 + 1))) else some false) else none) else none) else some true)
    (x0 x1 : List Int) (hx : x0.length ≤ 1099511627776) (hl : x0.length = x1.length) :
    Ev (fun k => L k x0 x1 0) (decide (x0 = x1)) := by
  have key : ∀ (d i : Nat), i + d = x0.length → (∀ j, j < i → x0[j]? = x1[j]?) → Ev (fun k => L k x0 x1 (i : Int)) (decide (x0 = x1)) := by
    intro d
    induction d with
    | zero =>
      intro i hi hj
      refine Ev.step (fun k => hL k _ _ _) (ev_neg (by omega) ?_)
      have : x0 = x1 := by
        apply List.ext_getElem? ; intro j
        by_cases hji : j < i
        · exact hj j hji
        · rw [List.getElem?_eq_none (by omega), List.getElem?_eq_none (by omega)]
      rw [decide_eq_true this]; exact Ev.now _
    | succ d ih =>
      intro i hi hj
      refine Ev.step (fun k => hL k _ _ _) (ev_pos (by omega) (ev_pos (by omega) (ev_pos (by omega) ?_)))
      by_cases e : rd x0 (i : Int) = rd x1 (i : Int)
      · refine ev_pos e ?_
        rw [w64 (by omega) (by omega)]
        refine ih (i + 1) (by omega) ?_
        intro j hj'
        by_cases e' : j = i
        · subst e'
          have h0 : j < x0.length := by omega
          have h1 : j < x1.length := by omega
          simp [rd, h0, h1] at e ⊢
          exact e
        · exact hj j (by omega)
      · refine ev_neg e ?_
        have : x0 ≠ x1 := by rintro rfl; exact e rfl
        rw [decide_eq_false this]; exact Ev.now _
  exact key x0.length 0 (by omega) (by intro j hj; omega)

/-- what is marked, from a number on -/
def marked (m : Int) : Nat → List Int
  | 0 => []
  | n + 1 => (m % 256) :: marked (m + 1) n
theorem marked_length (n : Nat) : ∀ m, (marked m n).length = n := by induction n with
  | zero => intro m; rfl
  | succ n ih => intro m; simp [marked, ih]
theorem marked_get (n : Nat) : ∀ (m : Int) (j : Nat), j < n → (marked m n)[j]? = some ((m + j) % 256) := by
  induction n with
  | zero => intro m j h; omega
  | succ n ih =>
    intro m j h
    cases j with
    | zero => simp [marked]
    | succ j => simp only [marked, List.getElem?_cons_succ]; rw [ih _ _ (by omega)]; congr 2; omega
theorem mark_ev {L : Nat → List Int → Int → Int → Option (Int × List Int)}
    (hL : ∀ k x0 x1 x5, L (k + 1) x0 x1 x5 = if x5 < (x0.length : Int) then (if 0 ≤ x5 then (L k (x0.set (x5 : Int).toNat ((x1) % 256)) (wrap64 (x1 + 1)) (wrap64 (x5 + 1))) else none) else some (x1, x0))
    (x0 : List Int) (m : Int) (hx : x0.length ≤ 1099511627776) (hm0 : 0 ≤ m) (hm1 : m ≤ 1099511627776) :
    Ev (fun k => L k x0 m 0) (m + x0.length, marked m x0.length) := by
  have key : ∀ (d i : Nat) (x : List Int), i + d = x0.length → x.length = x0.length → (∀ j, j < i → x[j]? = (marked m x0.length)[j]?) → Ev (fun k => L k x (m + i) (i : Int)) (m + x0.length, marked m x0.length) := by
    intro d
    induction d with
    | zero =>
      intro i x hi hl hj
      refine Ev.step (fun k => hL k _ _ _) (ev_neg (by omega) ?_)
      have e : x = marked m x0.length := by
        apply List.ext_getElem? ; intro j
        by_cases hji : j < i
        · exact hj j hji
        · rw [List.getElem?_eq_none (by omega), List.getElem?_eq_none (by rw [marked_length]; omega)]
      rw [e, show i = x0.length by omega]; exact Ev.now _
    | succ d ih =>
      intro i x hi hl hj
      refine Ev.step (fun k => hL k _ _ _) (ev_pos (by omega) (ev_pos (by omega) ?_))
      rw [w64 (by omega) (by omega), w64 (by omega) (by omega)]
      have := ih (i + 1) (x.set ((i : Int)).toNat ((m + i) % 256)) (by omega) (by simp [hl]) ?_
      · rw [show (m + ((i + 1 : Nat) : Int)) = m + i + 1 by omega, show (((i + 1 : Nat) : Int)) = (i : Int) + 1 by omega] at this
        exact this
      · intro j hj'
        rw [List.getElem?_set]
        by_cases e : i = j
        · subst e
          rw [marked_get _ _ _ (by omega)]
          simp [hl, show i < x0.length by omega]
        · rw [if_neg (by simpa using e)]
          exact hj j (by omega)
  have := key x0.length 0 x0 (by omega) rfl (by intro j hj; omega)
  simpa using this
theorem held_ev {L : Nat → List Int → Int → Int → Option Int}
    (hL : ∀ k x0 x1 x5, L (k + 1) x0 x1 x5 = if x5 < (x0.length : Int) then (if 0 ≤ x5 then (if (rd x0 x5) = ((x1) % 256) then (L k x0 (wrap64 (x1 + 1)) (wrap64 (x5 + 1))) else some (-1)) else none) else some x1)
    (n : Nat) (m : Int) (hx : n ≤ 1099511627776) (hm0 : 0 ≤ m) (hm1 : m ≤ 1099511627776) :
    Ev (fun k => L k (marked m n) m 0) (m + n) := by
  have key : ∀ (d i : Nat), i + d = n → Ev (fun k => L k (marked m n) (m + i) (i : Int)) (m + n) := by
    intro d
    induction d with
    | zero =>
      intro i hi
      refine Ev.step (fun k => hL k _ _ _) (ev_neg (by rw [marked_length]; omega) ?_)
      rw [show i = n by omega]; exact Ev.now _
    | succ d ih =>
      intro i hi
      refine Ev.step (fun k => hL k _ _ _) (ev_pos (by rw [marked_length]; omega) (ev_pos (by omega) (ev_pos ?_ ?_)))
      · rw [rd_nat, List.getD_eq_getElem?_getD, marked_get _ _ _ (by omega)]; rfl
      · rw [w64 (by omega) (by omega), w64 (by omega) (by omega)]
        have := ih (i + 1) (by omega)
        rw [show (m + ((i + 1 : Nat) : Int)) = m + i + 1 by omega, show (((i + 1 : Nat) : Int)) = (i : Int) + 1 by omega] at this
        exact this
  have := key n 0 (by omega)
  simpa using this
/-! ### a loop that asks each in turn -/
theorem all_ev {L : Nat → Int → Option Bool} {p : Nat → Bool} {e : Bool} (n : Nat)
    (hT : ∀ i : Nat, i < n → p i = true → ∀ r, Ev (fun k => L k ((i + 1 : Nat) : Int)) r → Ev (fun k => L k (i : Int)) r)
    (hF : ∀ i : Nat, i < n → p i = false → Ev (fun k => L k (i : Int)) false)
    (hE : Ev (fun k => L k (n : Int)) e) : Ev (fun k => L k 0) ((List.range n).all p && e) := by
  have key : ∀ d i : Nat, i + d = n → (∀ j, j < i → p j = true) → Ev (fun k => L k (i : Int)) ((List.range n).all p && e) := by
    intro d
    induction d with
    | zero =>
      intro i hi hj
      obtain rfl : i = n := by omega
      have : (List.range i).all p = true := by
        rw [List.all_eq_true]; intro x hx; exact hj x (List.mem_range.1 hx)
      rw [this, Bool.true_and]; exact hE
    | succ d ih =>
      intro i hi hj
      cases c : p i with
      | true =>
        refine hT i (by omega) c _ (ih (i + 1) (by omega) ?_)
        intro j hj'
        by_cases e' : j = i
        · exact e' ▸ c
        · exact hj j (by omega)
      | false =>
        have : (List.range n).all p = false := by
          rw [List.all_eq_false]; exact ⟨i, List.mem_range.2 (by omega), by simp [c]⟩
        rw [this, Bool.false_and]; exact hF i (by omega) c
  exact key n 0 (by omega) (by intro j hj; omega)
theorem all_range_rd (xs : List Int) (p : Int → Bool) : (List.range xs.length).all (fun i => p (rd xs (i : Int))) = xs.all p := by
  rw [Bool.eq_iff_iff, List.all_eq_true, List.all_eq_true]
  constructor
  · intro h x hx
    obtain ⟨i, hi, rfl⟩ := List.mem_iff_getElem.1 hx
    have := h i (List.mem_range.2 hi)
    simpa [rd, hi] using this
  · intro h i hi
    have hi := List.mem_range.1 hi
    have := h (xs[i]) (List.getElem_mem hi)
    simpa [rd, hi] using this

/-! ### bits -/
theorem pow2_le {i j : Nat} (h : i ≤ j) : (2 : Int) ^ i ≤ 2 ^ j := by
  have := Nat.pow_le_pow_right (n := 2) (by decide) h
  exact_mod_cast this
theorem pow256_le {i j : Nat} (h : i ≤ j) : (256 : Int) ^ i ≤ 256 ^ j := by
  have := Nat.pow_le_pow_right (n := 256) (by decide) h
  rw [← Int.ofNat_le] at this
  rwa [Int.natCast_pow, Int.natCast_pow] at this
theorem wrap_i64_id (j : Nat) (hj : j ≤ 62) (n : Int) (h0 : 0 ≤ n) (h1 : n < 2 ^ j) : IntKind.i64.wrap n = n := by
  have : (2 : Int) ^ j ≤ 2 ^ 62 := pow2_le hj
  rw [IntKind.wrap_i64]; omega
theorem or_add (i : Nat) {x y : Int} (hi : i ≤ 62) (hx0 : 0 ≤ x) (hx : x % 2 ^ i = 0) (hx1 : x < 2 ^ 62) (hy0 : 0 ≤ y) (hy : y < 2 ^ i) : Go.bits .or .i64 x y = x + y := by
  have : (2 : Int) ^ i ≤ 2 ^ 62 := pow2_le hi
  exact bits_join .i64 62 (by decide) (wrap_i64_id 62 (by decide)) i x y hx0 hx hx1 hy0 hy (by omega)
theorem xor_nat (a b : Nat) (ha : a < 2 ^ 62) (hb : b < 2 ^ 62) : Go.bits .xor .i64 a b = ((a ^^^ b : Nat) : Int) := by
  have ha' : a % 2 ^ IntKind.i64.bits = a := Nat.mod_eq_of_lt (Nat.lt_of_lt_of_le ha (by decide))
  have hb' : b % 2 ^ IntKind.i64.bits = b := Nat.mod_eq_of_lt (Nat.lt_of_lt_of_le hb (by decide))
  simp only [Go.bits, BitVec.ofInt_natCast, BitVec.toNat_xor, BitVec.toNat_ofNat, ha', hb']
  exact wrap_i64_id 62 (by decide) _ (Int.natCast_nonneg _) (by exact_mod_cast Nat.xor_lt_two_pow ha hb)
theorem nat_xor_zero {a b : Nat} (h : a ^^^ b = 0) : a = b := by
  have : a ^^^ b ^^^ b = b := by rw [h]; simp
  rw [Nat.xor_assoc, Nat.xor_self, Nat.xor_zero] at this
  exact this

/-! ### a list turned about in place -/
theorem rev_ev {L : Nat → List Int → Int → Int → Option (List Int)}
    (hL : ∀ k x0 x2 x3, L (k + 1) x0 x2 x3 = if x2 < x3 then (if 0 ≤ x3 then (if x3 < (x0.length : Int) then (if 0 ≤ x2 then (if x2 < (x0.length : Int) then (L k ((x0.set (x2 : Int).toNat (rd x0 x3)).set (x3 : Int).toNat (rd x0 x2)) (wrap64 (x2 + 1)) (wrap64 (x3 - 1))) else none) else none) else none) else none) else some x0)
    (y : List Int) (hy : y.length ≤ 1099511627776) : Ev (fun k => L k y 0 (wrap64 ((y.length : Int) - 1))) y.reverse := by
  have key : ∀ (d i : Nat) (x : List Int), y.length ≤ 2 * i + d → 2 * i ≤ y.length + 1 → x.length = y.length →
      (∀ t, t < y.length → x[t]? = if t < i ∨ y.length ≤ t + i then y[y.length - 1 - t]? else y[t]?) → Ev (fun k => L k x (i : Int) ((y.length : Int) - 1 - i)) y.reverse := by
    intro d
    induction d with
    | zero =>
      intro i x hd hi hl hx
      refine Ev.step (fun k => hL k _ _ _) (ev_neg (by omega) ?_)
      have : x = y.reverse := by
        apply List.ext_getElem?; intro t
        by_cases ht : t < y.length
        · rw [hx t ht, List.getElem?_reverse ht]
          by_cases c : t < i ∨ y.length ≤ t + i
          · rw [if_pos c]
          · rw [if_neg c]; congr 1; omega
        · rw [List.getElem?_eq_none (by omega), List.getElem?_eq_none (by simp; omega)]
      rw [this]; exact Ev.now _
    | succ d ih =>
      intro i x hd hi hl hx
      by_cases c : (i : Int) < (y.length : Int) - 1 - i
      · refine Ev.step (fun k => hL k _ _ _) (ev_pos c (ev_pos (by omega) (ev_pos (by omega) (ev_pos (by omega) (ev_pos (by omega) ?_)))))
        have e1 : Aside0 (wrap64 ((i : Int) + 1) = ((i + 1 : Nat) : Int)) := ⟨by unfold wrap64; omega⟩
        have e2 : Aside0 (wrap64 ((y.length : Int) - 1 - i - 1) = (y.length : Int) - 1 - ((i + 1 : Nat) : Int)) := ⟨by unfold wrap64; omega⟩
        have e3 : ((y.length : Int) - 1 - i).toNat = y.length - 1 - i := by omega
        have r1 : rd x ((y.length : Int) - 1 - i) = y.getD (y.length - 1 - i) 0 := by
          unfold rd; rw [e3, List.getD_eq_getElem?_getD, List.getD_eq_getElem?_getD, hx _ (by omega), if_neg (by omega)]
        have r2 : rd x (i : Int) = y.getD i 0 := by
          unfold rd; rw [Int.toNat_natCast, List.getD_eq_getElem?_getD, List.getD_eq_getElem?_getD, hx _ (by omega), if_neg (by omega)]
        rw [e1.out, e2.out, r1, r2, e3, Int.toNat_natCast]
        refine ih (i + 1) _ (by omega) (by omega) (by simp [hl]) ?_
        intro t ht
        rw [List.getElem?_set, List.getElem?_set]
        by_cases c1 : y.length - 1 - i = t
        · rw [if_pos c1, if_pos (by simp; omega), if_pos (.inr (by omega))]
          have : y.length - 1 - t = i := by omega
          rw [this, List.getD_eq_getElem?_getD, List.getElem?_eq_getElem (by omega)]; simp
        · rw [if_neg c1]
          by_cases c2 : i = t
          · subst c2
            rw [if_pos rfl, if_pos (by omega), if_pos (.inl (by omega))]
            rw [List.getD_eq_getElem?_getD, List.getElem?_eq_getElem (by omega)]; simp
          · rw [if_neg c2, hx t ht]
            by_cases c3 : t < i ∨ y.length ≤ t + i
            · rw [if_pos c3, if_pos (by omega)]
            · rw [if_neg c3, if_neg (by omega)]
      · refine Ev.step (fun k => hL k _ _ _) (ev_neg c ?_)
        have : x = y.reverse := by
          apply List.ext_getElem?; intro t
          by_cases ht : t < y.length
          · rw [hx t ht, List.getElem?_reverse ht]
            by_cases c : t < i ∨ y.length ≤ t + i
            · rw [if_pos c]
            · rw [if_neg c]; congr 1; omega
          · rw [List.getElem?_eq_none (by omega), List.getElem?_eq_none (by simp; omega)]
        rw [this]; exact Ev.now _
  have := key y.length 0 y (by omega) (by omega) rfl (by intro t ht; rw [if_neg (by omega)])
  rw [w64 (by omega) (by omega)]
  simpa using this
theorem bits_or_comm (k : IntKind) (x y : Int) : Go.bits .or k x y = Go.bits .or k y x := by simp only [Go.bits, BitVec.or_comm]
theorem and_mask (i : Nat) {x : Int} (hi : i ≤ 62) (h0 : 0 ≤ x) (h1 : x < 2 ^ 62) : Go.bits .and .i64 x (2 ^ i - 1) = x % 2 ^ i :=
  bits_mask .i64 62 (by decide) (wrap_i64_id 62 (by decide)) i hi x h0 h1
/-- what is marked in a list of whole numbers: all that is asked is that it comes to an end, and the count -/
theorem markInt_ev {L : Nat → List Int → Int → Int → Option (Int × List Int)}
    (hL : ∀ k x0 x1 x5, L (k + 1) x0 x1 x5 = if x5 < (x0.length : Int) then (if 0 ≤ x5 then (L k (x0.set (x5 : Int).toNat x1) (wrap64 (x1 + 1)) (wrap64 (x5 + 1))) else none) else some (x1, x0))
    (x0 : List Int) (m : Int) (hx : x0.length ≤ 1099511627776) (hm0 : 0 ≤ m) (hm1 : m ≤ 1099511627776) :
    ∃ y : List Int, y.length = x0.length ∧ Ev (fun k => L k x0 m 0) (m + x0.length, y) := by
  have key : ∀ (d i : Nat) (x : List Int), i + d = x0.length → x.length = x0.length → ∃ y : List Int, y.length = x0.length ∧ Ev (fun k => L k x (m + i) (i : Int)) (m + x0.length, y) := by
    intro d
    induction d with
    | zero =>
      intro i x hi hl
      refine ⟨x, hl, Ev.step (fun k => hL k _ _ _) (ev_neg (by omega) ?_)⟩
      rw [show i = x0.length by omega]; exact Ev.now _
    | succ d ih =>
      intro i x hi hl
      obtain ⟨y, hy, h⟩ := ih (i + 1) (x.set ((i : Int)).toNat (m + i)) (by omega) (by simp [hl])
      refine ⟨y, hy, Ev.step (fun k => hL k _ _ _) (ev_pos (by omega) (ev_pos (by omega) ?_))⟩
      rw [w64 (by omega) (by omega), w64 (by omega) (by omega)]
      rw [show (m + ((i + 1 : Nat) : Int)) = m + i + 1 by omega, show (((i + 1 : Nat) : Int)) = (i : Int) + 1 by omega] at h
      exact h
  have := key x0.length 0 x0 (by omega) rfl
  simpa using this

/-! ### bytes in order -/
theorem bl_gtr (a b : List UInt8) : (!Op.bytesLess a b && !a == b) = Op.bytesLess b a := by
  induction a generalizing b with
  | nil => cases b <;> simp [Op.bytesLess]
  | cons x a ih =>
    cases b with
    | nil => simp [Op.bytesLess]
    | cons y b =>
      have h := ih b
      simp only [Op.bytesLess, List.cons_beq_cons]
      by_cases c : x = y
      · subst c
        simp only [UInt8.lt_irrefl, decide_false, beq_self_eq_true, Bool.true_and, Bool.false_or]
        exact h
      · have c' : ¬ y = x := fun e => c e.symm
        have e1 : (x == y) = false := by simpa using c
        have e2 : (y == x) = false := by simpa using c'
        rw [e1, e2]
        have hn : x.toNat ≠ y.toNat := fun e => c (UInt8.toNat_inj.1 e)
        simp only [Bool.false_and, Bool.or_false, Bool.not_false, Bool.and_true]
        rw [Bool.eq_iff_iff]
        simp only [Bool.not_eq_true', decide_eq_false_iff_not, decide_eq_true_eq, UInt8.lt_iff_toNat_lt]
        omega

end Go.Proofs.Ytgfhbkhbnmgogaa.Base
/-- the printed rows of laws over slices name this lemma by 'PrintWords.' alone: here it is found -/
theorem Go.Proofs.Ytgfhbkhbnmgogaa.PrintWords.sized_ints {H : Type} {enc : Go.TypeId × Go.Value → H} {P : Go.Program} {W : Go.World} {base : Nat} {spare : Nat → Bool} {held : Bool} {t e : Go.TypeId} {k : Go.IntKind} {a : Option Go.Addr} {len cap : Nat} {d : Go.DataW H} {ps : List Go.MemPlace} {ts : List Go.TypeId} {ds : List (Go.DataW H)} {j : Nat}
    (hsz : (Go.DataW.weightsEach P ts ds).all (· ≤ Go.reachBytes) = true) (ht : ts[j]? = some t) (hd : ds[j]? = some d) (hu : P.underlying t = some (.slice e)) (he : P.underlying e = some (.int k)) (hc : P.cellsOf e = 1) {B : Nat} (hB : P.bytesOf e = B)
    (h : Go.DataW.Trod enc P W base spare held t (.slice a len cap) d ps) : len * B ≤ 140737488351232 :=
  Go.Proofs.YtgfhbkhbnmgogaaW.PrintWords.sized_ints hsz ht hd hu he hc hB h
