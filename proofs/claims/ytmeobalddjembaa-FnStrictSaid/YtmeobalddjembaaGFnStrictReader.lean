import Derived.Test.YtmeobalddjembaaGFnStrictRows
import Derived.Test.YtmeobalddjembaaGFnStrictx4
import Derived.BigQuiet
namespace Go.Proofs.Ytmeobalddjembaa.GFnStrict.Hand
open Go.RowKit Go.Proofs.YtmeobalddjembaaW.PrintWords Go.Proofs.YtmeobalddjembaaW.PrintLast Go.Proofs.YtmeobalddjembaaW.PrintMore
set_option linter.unusedVariables false
set_option linter.unusedSimpArgs false
/-! ### the reading of items, as plain functions -/
def at8 (b : List Int) (i : Nat) : Int := rd b (i : Int)
def madeT (t : Int) : Bool := decide (t / 32 % 2 = 1)
/-- tag, place of the body, its size; or code and place of a fault -/
def headFin (tag : Int) (i e from_ : Nat) (s : Int) : Except (Int × Int) (Int × Nat × Nat) := if (e : Int) < (from_ : Int) + s then .error (2, (i : Int)) else .ok (tag, from_, s.toNat)
def head (b : List Int) (i e g : Nat) : Except (Int × Int) (Int × Nat × Nat) :=
  if e ≤ i then .error (2, (i : Int)) else if at8 b i % 32 = 31 then .error (3, (i : Int)) else if g = 0 then .error (6, (i : Int)) else if e ≤ i + 1 then .error (2, (i : Int)) else
  if at8 b (i + 1) < 128 then headFin (at8 b i) i e (i + 2) (at8 b (i + 1)) else if at8 b (i + 1) = 128 ∨ at8 b (i + 1) > 130 then .error (4, (i : Int) + 1) else
  if at8 b (i + 1) = 129 then (if e < i + 3 then .error (2, (i : Int)) else if at8 b (i + 2) < 128 then .error (4, (i : Int) + 1) else headFin (at8 b i) i e (i + 3) (at8 b (i + 2)))
  else (if e < i + 4 then .error (2, (i : Int)) else if at8 b (i + 2) * 256 + at8 b (i + 3) < 256 then .error (4, (i : Int) + 1) else headFin (at8 b i) i e (i + 4) (at8 b (i + 2) * 256 + at8 b (i + 3)))
def rdKids (f : Nat → Except (Int × Int) (List S52 × Nat)) (stop : Nat) : Nat → Nat → Except (Int × Int) (List S52 × Nat)
  | 0, _ => .ok ([], 0)
  | n + 1, next => if next < stop then (match f next with
    | .error e => .error e
    | .ok (l, nx) => match rdKids f stop n nx with
      | .error e => .error e
      | .ok (l2, c) => .ok (l ++ l2, c + 1)) else .ok ([], 0)
def rdItem (b : List Int) : Nat → Nat → Nat → Except (Int × Int) (List S52 × Nat)
  | 0, e, i => match head b i e 0 with
    | .error x => .error x
    | .ok _ => .error (0, 0)
  | g + 1, e, i => match head b i e (g + 1) with
    | .error x => .error x
    | .ok (tag, from_, size) => if madeT tag = true then (match rdKids (rdItem b g (from_ + size)) (from_ + size) size from_ with
      | .error x => .error x
      | .ok (l, c) => .ok (⟨tag, [], (c : Int)⟩ :: l, from_ + size)) else .ok ([⟨tag, (b.drop from_).take size, 0⟩], from_ + size)
theorem head_ok {b : List Int} {i e g : Nat} {tag : Int} {f s : Nat} (hb : ∀ x ∈ b, 0 ≤ x ∧ x ≤ 255) (h : head b i e g = .ok (tag, f, s)) : i + 2 ≤ f ∧ f + s ≤ e ∧ tag = at8 b i ∧ i < e ∧ g ≠ 0 := by
  have h8 : ∀ j, 0 ≤ at8 b j ∧ at8 b j ≤ 255 := by
    intro j
    unfold at8 rd
    rw [Int.toNat_natCast, List.getD_eq_getElem?_getD]
    cases hj : b[j]? with
    | none => simp
    | some x => exact hb x (List.mem_of_getElem? hj)
  have hfin : ∀ (q : Nat) (t : Int), i + 2 ≤ q → 0 ≤ t → headFin (at8 b i) i e q t = .ok (tag, f, s) → i + 2 ≤ f ∧ f + s ≤ e ∧ tag = at8 b i := by
    intro q t hq ht hf
    unfold headFin at hf
    by_cases c : (e : Int) < (q : Int) + t
    · rw [if_pos c] at hf
      cases hf
    · rw [if_neg c] at hf
      injection hf with hf
      injection hf with h1 h2
      injection h2 with h2 h3
      subst h1 h2 h3
      refine ⟨hq, by omega, rfl⟩
  have h1 := h8 (i + 1)
  have h2 := h8 (i + 2)
  have h3 := h8 (i + 3)
  unfold head at h
  repeat' split at h
  all_goals first | (cases h; done) | skip
  all_goals (first | (have := hfin _ _ (by omega) (by omega) h; omega) | skip)
/-! ### the reader's block; fail -/
def RdSt (w : World) (hp : Nat) (bv lv : Value) (code place : Int) : Prop := w.heap[hp]? = some (.cells #[bv, lv, .int .i64 code, .int .i64 place] 73 (0, 0))
set_option maxHeartbeats 2000000 in
set_option maxRecDepth 100000 in
theorem fail_calls (hp : Nat) (bv lv : Value) (code place a1 a2 : Int) (w w0 : World) (hB : Below w0.heap.size w0 w) (hb : w0.heap.size ≤ hp) (h : RdSt w hp bv lv code place) :
    Calls Try.prog 67 #[.pointer (some ⟨hp, 0, none⟩), .int .i64 a1, .int .i64 a2] w fun e w' => e = .returned (.int .i64 (-1)) ∧ RdSt w' hp bv lv a1 a2 ∧ Below w0.heap.size w0 w' := by
  have x2 : w.cell? ⟨hp, 2, none⟩ = some (.int .i64 code) := cell_at h 2
  have y2 := free_at h 2
  have k2 := heap_set h 2 (.int .i64 a1)
  have x3 : (w.setCell ⟨hp, 2, none⟩ (.int .i64 a1)).cell? ⟨hp, 3, none⟩ = some (.int .i64 place) := cell_at k2 3
  have y3 := free_at k2 3
  have k3 := heap_set k2 3 (.int .i64 a2)
  have HK := Aside0.mk k3
  have HB := Aside0.mk hB
  clear h k2 k3 hB
  go_enter Try.func67, Try.ntmps67
  go_wp2
  try go_region
  all_goals (try go_wp2)
  go_ret
  exact ⟨rfl, HK.out, below_set (below_set HB.out hb) hb⟩
theorem rdKids_le {f : Nat → Except (Int × Int) (List S52 × Nat)} {stop : Nat} (hf : ∀ i l nx, f i = .ok (l, nx) → i + 2 ≤ nx ∧ nx ≤ stop ∧ l.length ≤ nx - i) : ∀ (n next : Nat) (l : List S52) (c : Nat), rdKids f stop n next = .ok (l, c) → next ≤ stop → l.length ≤ stop - next
  | 0, next, l, c, h, _ => by
    injection h with h
    injection h with h1 h2
    subst h1
    simp
  | n + 1, next, l, c, h, hn => by
    unfold rdKids at h
    by_cases c1 : next < stop
    · rw [if_pos c1] at h
      cases hx : f next with
      | error x => rw [hx] at h; cases h
      | ok y =>
        obtain ⟨l1, nx⟩ := y
        rw [hx] at h
        have h1 := hf _ _ _ hx
        simp only at h
        cases hy : rdKids f stop n nx with
        | error x => rw [hy] at h; cases h
        | ok z =>
          obtain ⟨l2, c2⟩ := z
          rw [hy] at h
          have h2 := rdKids_le hf n nx l2 c2 hy h1.2.1
          injection h with h
          injection h with h3 h4
          subst h3
          rw [List.length_append]
          omega
    · rw [if_neg c1] at h
      injection h with h
      injection h with h1 h2
      subst h1
      simp
theorem rdItem_ok {b : List Int} (hb : ∀ x ∈ b, 0 ≤ x ∧ x ≤ 255) : ∀ (g e i : Nat) (l : List S52) (nx : Nat), rdItem b g e i = .ok (l, nx) → i + 2 ≤ nx ∧ nx ≤ e ∧ l.length ≤ nx - i
  | 0, e, i, l, nx, h => by
    unfold rdItem at h
    cases hh : head b i e 0 with
    | error x => rw [hh] at h; cases h
    | ok y => rw [hh] at h; cases h
  | g + 1, e, i, l, nx, h => by
    unfold rdItem at h
    cases hh : head b i e (g + 1) with
    | error x => rw [hh] at h; cases h
    | ok y =>
      obtain ⟨tag, f, s⟩ := y
      rw [hh] at h
      have h1 := head_ok hb hh
      simp only at h
      by_cases c : madeT tag = true
      · rw [if_pos c] at h
        cases hk : rdKids (rdItem b g (f + s)) (f + s) s f with
        | error x => rw [hk] at h; cases h
        | ok z =>
          obtain ⟨l2, c2⟩ := z
          rw [hk] at h
          have h2 := rdKids_le (fun i l nx hx => rdItem_ok hb g (f + s) i l nx hx) s f l2 c2 hk (by omega)
          injection h with h
          injection h with h3 h4
          subst h3 h4
          simp only [List.length_cons]
          omega
      · rw [if_neg c] at h
        injection h with h
        injection h with h3 h4
        subst h3 h4
        simp
        omega
theorem bits31u (t : Int) (h0 : 0 ≤ t) (h1 : t ≤ 255) : (Go.bits .and .u8 t 31 == 31) = decide (t % 32 = 31) := by
  obtain ⟨n, rfl⟩ := Int.eq_ofNat_of_zero_le h0
  have : ∀ m : Fin 256, (Go.bits .and .u8 ((m.val : Nat) : Int) 31 == 31) = decide (((m.val : Nat) : Int) % 32 = 31) := by decide +kernel
  exact this ⟨n, by omega⟩
theorem or_byte (v b : Int) (h0 : -36028797018963968 ≤ v) (h1 : v ≤ 36028797018963967) (hb0 : 0 ≤ b) (hb1 : b < 256) : Go.bits .or .i64 (v * 256) b = v * 256 + b := by
  show IntKind.i64.wrap ((BitVec.ofInt 64 (v * 256) ||| BitVec.ofInt 64 b).toNat : Int) = _
  rw [BitVec.toNat_or, BitVec.toNat_ofInt, BitVec.toNat_ofInt]
  obtain ⟨q, hq⟩ : ∃ q : Nat, (v * 256 % ((2 ^ 64 : Nat) : Int)).toNat = 2 ^ 8 * q := ⟨(v * 256 % ((2 ^ 64 : Nat) : Int)).toNat / 256, by omega⟩
  obtain ⟨c, hc⟩ : ∃ c : Nat, b = (c : Int) := ⟨b.toNat, by omega⟩
  have hc2 : (b % ((2 ^ 64 : Nat) : Int)).toNat = c := by omega
  rw [hq, hc2, ← Nat.two_pow_add_eq_or_of_lt (by omega : c < 2 ^ 8), IntKind.wrap_i64]
  omega
theorem bits32 : ∀ n : Fin 256, (Go.bits .and .i64 ((n.val : Nat) : Int) 32 != 0) = madeT ((n.val : Nat) : Int) := by decide +kernel
theorem isMadeT (t : Int) (h0 : 0 ≤ t) (h1 : t ≤ 255) : impl_isMade.f t = some (madeT t) := by
  obtain ⟨n, rfl⟩ := Int.eq_ofNat_of_zero_le h0
  unfold impl_isMade.f
  exact congrArg some (bits32 ⟨n, by omega⟩)
theorem far_cell {w : World} {h g : Nat} (hne : h ≠ g) (o j : Nat) (v : Value) : (w.setCell ⟨g, o, none⟩ v).cell? ⟨h, j, none⟩ = w.cell? ⟨h, j, none⟩ := by
  simp only [World.cell?]
  rw [heap_other w g o v h hne]
def ItemPost (w0 : World) (hp : Nat) (bv : Value) (code place : Int) (xs : List (S52 × Value)) (res : Except (Int × Int) (List S52 × Nat)) (ex : Ending) (w' : World) : Prop :=
  match res with
  | .error x => ex = .returned (.int .i64 (-1)) ∧ (∃ lv, RdSt w' hp bv lv x.1 x.2) ∧ Below w0.heap.size w0 w'
  | .ok y => ex = .returned (.int .i64 (y.2 : Int)) ∧ ∃ (A : Option Addr) (c : Nat) (ys : List (S52 × Value)), ys.map (·.1) = y.1 ∧ RdSt w' hp bv (.slice A (xs ++ ys).length c) code place ∧ kB.R 52 w' w0.heap.size (fun k => k ≠ hp) (.slice A (xs ++ ys).length c) (xs ++ ys) ∧ (blocks (xs ++ ys)).Nodup ∧ Below w0.heap.size w0 w'
theorem itemPost_error {w0 w : World} {hp : Nat} {bv lv : Value} {code place a1 a2 : Int} {xs : List (S52 × Value)} {res : Except (Int × Int) (List S52 × Nat)} {ex : Ending} (h : res = .error (a1, a2)) (h1 : ex = .returned (.int .i64 (-1))) (h2 : RdSt w hp bv lv a1 a2) (h3 : Below w0.heap.size w0 w) : ItemPost w0 hp bv code place xs res ex w := by
  subst h
  exact ⟨h1, ⟨lv, h2⟩, h3⟩
theorem itemPost_ok {w0 w : World} {hp : Nat} {bv : Value} {code place : Int} {xs : List (S52 × Value)} {res : Except (Int × Int) (List S52 × Nat)} {ex : Ending} {l : List S52} {nx : Nat} {A : Option Addr} {c : Nat} (h : res = .ok (l, nx)) (h1 : ex = .returned (.int .i64 (nx : Int))) (ys : List (S52 × Value)) (h2 : ys.map (·.1) = l) (h3 : RdSt w hp bv (.slice A (xs ++ ys).length c) code place) (h4 : kB.R 52 w w0.heap.size (fun k => k ≠ hp) (.slice A (xs ++ ys).length c) (xs ++ ys)) (h5 : (blocks (xs ++ ys)).Nodup) (h6 : Below w0.heap.size w0 w) : ItemPost w0 hp bv code place xs res ex w := by
  subst h
  exact ⟨h1, A, c, ys, h2, h3, h4, h5, h6⟩
theorem rdItem_error {b : List Int} {g e i : Nat} {x : Int × Int} (h : head b i e g = .error x) : rdItem b g e i = .error x := by
  cases g with
  | zero => unfold rdItem; rw [h]
  | succ g => unfold rdItem; rw [h]
theorem blocks_nil (y : S52) (t : List (S52 × Value)) : blocks ((y, .slice none 0 0) :: t) = blocks t := by simp [blocks, Value.ownBlock]
def addK (acc : List S52) (c : Nat) : Except (Int × Int) (List S52 × Nat) → Except (Int × Int) (List S52 × Nat)
  | .error x => .error x
  | .ok y => .ok (acc ++ y.1, c + y.2)
def ItemSpec (b : List Int) (ad : Addr) (c0 : Nat) (w0 : World) (g : Nat) : Prop := ∀ (i e : Nat) (w : World) (hp : Nat) (Al : Option Addr) (cl : Nat) (code place : Int) (xs : List (S52 × Value)), e ≤ b.length → i ≤ 4000 → Below w0.heap.size w0 w → w0.heap.size ≤ hp → RdSt w hp (.slice (some ad) b.length c0) (.slice Al xs.length cl) code place →
  kB.R 52 w w0.heap.size (fun k => k ≠ hp) (.slice Al xs.length cl) xs → (blocks xs).Nodup → xs.length + (e - i) ≤ 5000 →
  Calls Try.prog 53 #[.pointer (some ⟨hp, 0, none⟩), .int .i64 (i : Int), .int .i64 (e : Int), .int .i64 (13 - (g : Int))] w (ItemPost w0 hp (.slice (some ad) b.length c0) code place xs (rdItem b g e i))
set_option maxHeartbeats 4000000 in
set_option maxRecDepth 100000 in
theorem item_try (b : List Int) (ad : Addr) (c0 : Nat) (w0 : World) (hr0 : Kd.C (Kd.int .u8) w0 (some ad) b.length b) (hc0 : b.length ≤ c0) (hb : ∀ x ∈ b, 0 ≤ x ∧ x ≤ 255) (hl : b.length ≤ 4000)
    (g : Nat) (ih : ∀ g', g = g' + 1 → ItemSpec b ad c0 w0 g') (i e : Nat) (w : World) (hp : Nat) (Al : Option Addr) (cl : Nat) (code place : Int) (xs : List (S52 × Value)) (hg : g ≤ 13) (he : e ≤ b.length) (hi : i ≤ 4000) (hB : Below w0.heap.size w0 w) (hhp : w0.heap.size ≤ hp) (hst : RdSt w hp (.slice (some ad) b.length c0) (.slice Al xs.length cl) code place)
    (hrow : kB.R 52 w w0.heap.size (fun k => k ≠ hp) (.slice Al xs.length cl) xs) (hnd : (blocks xs).Nodup) (hxl : xs.length + (e - i) ≤ 5000) :
    Calls Try.prog 53 #[.pointer (some ⟨hp, 0, none⟩), .int .i64 (i : Int), .int .i64 (e : Int), .int .i64 (13 - (g : Int))] w (ItemPost w0 hp (.slice (some ad) b.length c0) code place xs (rdItem b g e i)) := by
  have HB := Aside0.mk hB
  have HST := Aside0.mk hst
  have HROW := Aside0.mk hrow
  have HND := Aside0.mk hnd
  have H8 : Aside0 (∀ j, 0 ≤ at8 b j ∧ at8 b j ≤ 255) := ⟨by
    intro j
    unfold at8 rd
    rw [Int.toNat_natCast, List.getD_eq_getElem?_getD]
    cases hj : b[j]? with
    | none => simp
    | some x => exact hb x (List.mem_of_getElem? hj)⟩
  have HCELL : Aside0 (∀ (j : Nat), j < b.length → ∀ W : World, Below w0.heap.size w0 W → W.cell? (ad.add j) = some (.int .u8 (at8 b j))) := ⟨by
    intro j hj W hW
    obtain ⟨ad', e1, h⟩ := Kd.at_int hr0 (j : Int) (by omega) (by omega)
    obtain rfl : ad = ad' := Option.some.inj e1
    exact pw_cell_below hW h⟩
  have HR0 := Aside0.mk hr0
  have HBY := Aside0.mk hb
  clear hB hrow hnd hb hr0
  have z0 : w.cell? ⟨hp, 0, none⟩ = some (.slice (some ad) b.length c0) := cell_at hst 0
  have z1 : w.cell? ⟨hp, 1, none⟩ = some (.slice Al xs.length cl) := cell_at hst 1
  clear hst
  have p0 : (0 : Int) ≤ (i : Int) := by omega
  by_cases c1 : e ≤ i
  · have HE : Aside0 (rdItem b g e i = .error (2, (i : Int))) := ⟨rdItem_error (by unfold head; rw [if_pos c1])⟩
    go_enter Try.func53, Try.ntmps53
    go_wp2_with fail
    refine (fail_calls hp _ _ code place 2 (i : Int) w w0 HB.out hhp HST.out).mono ?_
    rintro ex w1 ⟨rfl, h1, h2⟩
    have HP := Aside0.mk (itemPost_error (code := code) (place := place) (xs := xs) HE.out rfl h1 h2)
    clear h1 h2
    go_wp2
    go_ret
    exact HP.out
  have hx0 := HCELL.out i (by omega) w HB.out
  have hr0 := H8.out i
  by_cases c2 : at8 b i % 32 = 31
  · have HE : Aside0 (rdItem b g e i = .error (3, (i : Int))) := ⟨rdItem_error (by unfold head; rw [if_neg c1, if_pos c2])⟩
    generalize at8 b i = x0 at *
    go_enter Try.func53, Try.ntmps53
    go_wp2_with fail
    refine (fail_calls hp _ _ code place 3 (i : Int) w w0 HB.out hhp HST.out).mono ?_
    rintro ex w1 ⟨rfl, h1, h2⟩
    have HP := Aside0.mk (itemPost_error (code := code) (place := place) (xs := xs) HE.out rfl h1 h2)
    clear h1 h2
    go_wp2
    go_ret
    exact HP.out
  by_cases c3 : g = 0
  · have HE : Aside0 (rdItem b g e i = .error (6, (i : Int))) := ⟨rdItem_error (by unfold head; rw [if_neg c1, if_neg c2, if_pos c3])⟩
    generalize at8 b i = x0 at *
    go_enter Try.func53, Try.ntmps53
    go_wp2_with fail
    refine (fail_calls hp _ _ code place 6 (i : Int) w w0 HB.out hhp HST.out).mono ?_
    rintro ex w1 ⟨rfl, h1, h2⟩
    have HP := Aside0.mk (itemPost_error (code := code) (place := place) (xs := xs) HE.out rfl h1 h2)
    clear h1 h2
    go_wp2
    go_ret
    exact HP.out
  by_cases c4 : e ≤ i + 1
  · have HE : Aside0 (rdItem b g e i = .error (2, (i : Int))) := ⟨rdItem_error (by unfold head; rw [if_neg c1, if_neg c2, if_neg c3, if_pos c4])⟩
    generalize at8 b i = x0 at *
    go_enter Try.func53, Try.ntmps53
    go_wp2_with fail
    refine (fail_calls hp _ _ code place 2 (i : Int) w w0 HB.out hhp HST.out).mono ?_
    rintro ex w1 ⟨rfl, h1, h2⟩
    have HP := Aside0.mk (itemPost_error (code := code) (place := place) (xs := xs) HE.out rfl h1 h2)
    clear h1 h2
    go_wp2
    go_ret
    exact HP.out
  have hx1 : w.cell? ⟨ad.block, ad.off + (i + 1), none⟩ = some (.int .u8 (at8 b (i + 1))) := by simpa [Addr.add] using HCELL.out (i + 1) (by omega) w HB.out
  have hr1 := H8.out (i + 1)
  have p1 : (0 : Int) ≤ (i : Int) + 1 := by omega
  have q1 : ((i : Int) + 1).toNat = i + 1 := by omega
  by_cases c5 : ¬ at8 b (i + 1) < 128 ∧ (at8 b (i + 1) = 128 ∨ at8 b (i + 1) > 130)
  · have HE : Aside0 (rdItem b g e i = .error (4, (i : Int) + 1)) := ⟨rdItem_error (by unfold head; rw [if_neg c1, if_neg c2, if_neg c3, if_neg c4, if_neg c5.1, if_pos c5.2])⟩
    generalize at8 b i = x0 at *
    generalize at8 b (i + 1) = x1 at *
    obtain ⟨_, c5 | c5⟩ := c5
    · subst c5
      go_enter Try.func53, Try.ntmps53
      go_wp2_with fail
      refine (fail_calls hp _ _ code place 4 ((i : Int) + 1) w w0 HB.out hhp HST.out).mono ?_
      rintro ex w1 ⟨rfl, h1, h2⟩
      have HP := Aside0.mk (itemPost_error (code := code) (place := place) (xs := xs) HE.out rfl h1 h2)
      clear h1 h2
      go_wp2
      go_ret
      exact HP.out
    · have n5 : ¬ x1 = 128 := by omega
      go_enter Try.func53, Try.ntmps53
      go_wp2_with fail
      refine (fail_calls hp _ _ code place 4 ((i : Int) + 1) w w0 HB.out hhp HST.out).mono ?_
      rintro ex w1 ⟨rfl, h1, h2⟩
      have HP := Aside0.mk (itemPost_error (code := code) (place := place) (xs := xs) HE.out rfl h1 h2)
      clear h1 h2
      go_wp2
      go_ret
      exact HP.out
  have HH : Aside0 (head b i e g = if at8 b (i + 1) < 128 then headFin (at8 b i) i e (i + 2) (at8 b (i + 1)) else if at8 b (i + 1) = 129 then (if e < i + 3 then .error (2, (i : Int)) else if at8 b (i + 2) < 128 then .error (4, (i : Int) + 1) else headFin (at8 b i) i e (i + 3) (at8 b (i + 2)))
      else (if e < i + 4 then .error (2, (i : Int)) else if at8 b (i + 2) * 256 + at8 b (i + 3) < 256 then .error (4, (i : Int) + 1) else headFin (at8 b i) i e (i + 4) (at8 b (i + 2) * 256 + at8 b (i + 3)))) := ⟨by
    unfold head
    rw [if_neg c1, if_neg c2, if_neg c3, if_neg c4]
    by_cases c : at8 b (i + 1) < 128
    · rw [if_pos c, if_pos c]
    · rw [if_neg c, if_neg c, if_neg (fun h => c5 ⟨c, h⟩)]⟩
  generalize hx0e : at8 b i = x0 at *
  generalize hx1e : at8 b (i + 1) = x1 at *
  clear hx0e hx1e
  have c5a : ¬ x1 = 128 := fun h => c5 ⟨by omega, .inl h⟩
  have c5b : ¬ x1 > 130 := fun h => c5 ⟨by omega, .inr h⟩
  clear c5
  go_enter Try.func53, Try.ntmps53
  go_upto_if 73 with (fail)
  go_cut [9, 10] (fun v9 v10 wc => ∃ (f : Nat) (s : Int), v9 = .int .i64 s ∧ v10 = .int .i64 (f : Int) ∧ wc = w ∧ 0 ≤ s ∧ s ≤ 65535 ∧ i + 2 ≤ f ∧ f ≤ i + 4 ∧ Aside0 (head b i e g = headFin x0 i e f s))
  case first =>
    by_cases c6 : x1 < 128
    · go_wp2
      go_meet
      case rel => exact ⟨i + 2, x1, rfl, by simp, rfl, hr1.1, by omega, by omega, by omega, ⟨by rw [HH.out, if_pos c6]⟩⟩
    · by_cases c7 : x1 = 129
      · by_cases c8 : e < i + 3
        · subst c7
          have HE : Aside0 (rdItem b g e i = .error (2, (i : Int))) := ⟨rdItem_error (by rw [HH.out, if_neg c6, if_pos rfl, if_pos c8])⟩
          go_wp2_with fail
          refine (fail_calls hp _ _ code place 2 ((i : Int)) w w0 HB.out hhp HST.out).mono ?_
          rintro ex w1 ⟨rfl, h1, h2⟩
          have HP := Aside0.mk (itemPost_error (code := code) (place := place) (xs := xs) HE.out rfl h1 h2)
          clear h1 h2
          go_wp2
          go_ret
          exact HP.out
        have hx2 : w.cell? ⟨ad.block, ad.off + (i + 2), none⟩ = some (.int .u8 (at8 b (i + 2))) := by simpa [Addr.add] using HCELL.out (i + 2) (by omega) w HB.out
        have hr2 := H8.out (i + 2)
        have p2 : (0 : Int) ≤ (i : Int) + 2 := by omega
        have q2 : ((i : Int) + 2).toNat = i + 2 := by omega
        subst c7
        generalize at8 b (i + 2) = x2 at *
        by_cases c9 : x2 < 128
        · have HE : Aside0 (rdItem b g e i = .error (4, (i : Int) + 1)) := ⟨rdItem_error (by rw [HH.out, if_neg c6, if_pos rfl, if_neg c8, if_pos c9])⟩
          go_wp2_with fail
          refine (fail_calls hp _ _ code place 4 ((i : Int) + 1) w w0 HB.out hhp HST.out).mono ?_
          rintro ex w1 ⟨rfl, h1, h2⟩
          have HP := Aside0.mk (itemPost_error (code := code) (place := place) (xs := xs) HE.out rfl h1 h2)
          clear h1 h2
          go_wp2
          go_ret
          exact HP.out
        · go_wp2
          go_meet
          case rel => exact ⟨i + 3, x2, rfl, congrArg (Value.int .i64) (by omega), rfl, hr2.1, by omega, by omega, by omega, ⟨by rw [HH.out, if_neg (by omega : ¬ (129 : Int) < 128), if_pos trivial, if_neg (by omega : ¬ e < i + 3), if_neg (by omega : ¬ x2 < 128)]⟩⟩
      · obtain rfl : x1 = 130 := by omega
        by_cases c8 : e < i + 4
        · have HE : Aside0 (rdItem b g e i = .error (2, (i : Int))) := ⟨rdItem_error (by rw [HH.out, if_neg c6, if_neg c7, if_pos c8])⟩
          go_wp2_with fail
          refine (fail_calls hp _ _ code place 2 ((i : Int)) w w0 HB.out hhp HST.out).mono ?_
          rintro ex w1 ⟨rfl, h1, h2⟩
          have HP := Aside0.mk (itemPost_error (code := code) (place := place) (xs := xs) HE.out rfl h1 h2)
          clear h1 h2
          go_wp2
          go_ret
          exact HP.out
        have hx2 : w.cell? ⟨ad.block, ad.off + (i + 2), none⟩ = some (.int .u8 (at8 b (i + 2))) := by simpa [Addr.add] using HCELL.out (i + 2) (by omega) w HB.out
        have hr2 := H8.out (i + 2)
        have p2 : (0 : Int) ≤ (i : Int) + 2 := by omega
        have q2 : ((i : Int) + 2).toNat = i + 2 := by omega
        have hx3 : w.cell? ⟨ad.block, ad.off + (i + 3), none⟩ = some (.int .u8 (at8 b (i + 3))) := by simpa [Addr.add] using HCELL.out (i + 3) (by omega) w HB.out
        have hr3 := H8.out (i + 3)
        have p3 : (0 : Int) ≤ (i : Int) + 3 := by omega
        have q3 : ((i : Int) + 3).toNat = i + 3 := by omega
        generalize at8 b (i + 2) = x2 at *
        generalize at8 b (i + 3) = x3 at *
        have hor := or_byte x2 x3 (by omega) (by omega) hr3.1 (by omega)
        by_cases c9 : x2 * 256 + x3 < 256
        · by_cases c10 : x2 * 256 + x3 < 128
          · have HE : Aside0 (rdItem b g e i = .error (4, (i : Int) + 1)) := ⟨rdItem_error (by rw [HH.out, if_neg (by omega : ¬ (130 : Int) < 128), if_neg (by omega : ¬ (130 : Int) = 129), if_neg (by omega : ¬ e < i + 4), if_pos c9])⟩
            go_wp2_with fail
            refine (fail_calls hp _ _ code place 4 ((i : Int) + 1) w w0 HB.out hhp HST.out).mono ?_
            rintro ex w1 ⟨rfl, h1, h2⟩
            have HP := Aside0.mk (itemPost_error (code := code) (place := place) (xs := xs) HE.out rfl h1 h2)
            clear h1 h2
            go_wp2
            go_ret
            exact HP.out
          · have HE : Aside0 (rdItem b g e i = .error (4, (i : Int) + 1)) := ⟨rdItem_error (by rw [HH.out, if_neg (by omega : ¬ (130 : Int) < 128), if_neg (by omega : ¬ (130 : Int) = 129), if_neg (by omega : ¬ e < i + 4), if_pos c9])⟩
            go_wp2_with fail
            refine (fail_calls hp _ _ code place 4 ((i : Int) + 1) w w0 HB.out hhp HST.out).mono ?_
            rintro ex w1 ⟨rfl, h1, h2⟩
            have HP := Aside0.mk (itemPost_error (code := code) (place := place) (xs := xs) HE.out rfl h1 h2)
            clear h1 h2
            go_wp2
            go_ret
            exact HP.out
        · go_wp2
          go_meet
          case rel => exact ⟨i + 4, x2 * 256 + x3, rfl, congrArg (Value.int .i64) (by omega), rfl, by omega, by omega, by omega, by omega, ⟨by rw [HH.out, if_neg (by omega : ¬ (130 : Int) < 128), if_neg (by omega : ¬ (130 : Int) = 129), if_neg (by omega : ¬ e < i + 4), if_neg (by omega : ¬ x2 * 256 + x3 < 256)]⟩⟩
  case rest =>
    obtain ⟨f, s, rfl, rfl, rfl, hs0, hs1, hf1, hf2, HF⟩ := hcut
    clear HH hx1 c5a c5b hr1
    by_cases c11 : (e : Int) < (f : Int) + s
    · have HE : Aside0 (rdItem b g e i = .error (2, (i : Int))) := ⟨rdItem_error (by rw [HF.out]; unfold headFin; rw [if_pos c11])⟩
      go_wp2_with fail
      refine (fail_calls hp _ _ code place 2 (i : Int) wc w0 HB.out hhp HST.out).mono ?_
      rintro ex w1 ⟨rfl, h1, h2⟩
      have HP := Aside0.mk (itemPost_error (code := code) (place := place) (xs := xs) HE.out rfl h1 h2)
      clear h1 h2
      go_wp2
      go_ret
      exact HP.out
    obtain ⟨s, rfl⟩ := Int.eq_ofNat_of_zero_le hs0
    have HF2 : Aside0 (head b i e g = .ok (x0, f, s)) := ⟨by rw [HF.out]; unfold headFin; rw [if_neg c11]; rfl⟩
    clear HF
    go_upto_region 24 with (fail)
    go_quiet (fail)
    have HB1 := Aside0.mk (pw_below_drewN HB.out nq)
    have HST1 : Aside0 (RdSt (wc.drewN nq) hp (.slice (some ad) b.length c0) (.slice Al xs.length cl) code place) := HST
    have HROW1 := Aside0.mk (Kd.R_drewN HROW.out nq)
    generalize wc.drewN nq = W1 at HB1 HST1 HROW1 ⊢
    clear z0 z1 hx0
    have hpl := Aside0.mk (Array.getElem?_eq_some_iff.1 HST1.out).1
    have hpn : Aside0 (some hp ≠ (Value.slice Al xs.length cl).ownBlock) := ⟨fun e => HROW1.out.1 hp e.symm rfl⟩
    have z1 : W1.cell? ⟨hp, 1, none⟩ = some (.slice Al xs.length cl) := cell_at HST1.out 1
    have hmd := isMadeT x0 hr0.1 hr0.2
    have HMD := Aside0.mk hmd
    clear hmd
    go_upto_region 26 with (first | (at_builtin; refine Kd.R_append kB (w0 := w0) w0.heap.size rfl (.tmp 146) (.tmp 149) 25 52 (.agg #[(.int .i64 0), (.slice none 0 0), (.int .i64 0)]) 40 rfl Try.underlying25 info52' rfl (by decide) (by omega) (.slice Al xs.length cl) xs (⟨x0, [], 0⟩, .slice none 0 0) [.int .i64 x0, .slice none 0 0, .int .i64 0] (fun k => k ≠ hp) (fun _ => False) rfl rfl ?aP (fun _ hk => hk.elim) ?aF HROW1.out HB1.out HB1.out.size ?aL ?_; (case aP => exact ⟨k52_mkM _ _ _ ⟨x0, [], 0⟩ (v1 := .slice none 0 0) (Kd.R_nil _ _ _ _ _), rfl⟩); (case aF => exact (fun k hk => by have := hpl.out; omega)); (case aL => omega); intro v5 w5 ho hb hg hat; obtain ⟨A5, c5, rfl⟩ := Kd.R_slice ho; rw [List.length_append, List.length_singleton] at ho; have j5 := (hg.block hp hpl.out hpn.out).trans HST1.out; have x5 : w5.cell? ⟨hp, 1, none⟩ = some (.slice Al xs.length cl) := cell_at j5 1; have y5 := free_at j5 1; have J5 := Aside0.mk j5; have HO5 := Aside0.mk ho; have HB5 := Aside0.mk hb; clear ho hb hg hat j5))
    have HO6 : Aside0 (kB.R 52 (w5.setCell ⟨hp, 1, none⟩ (.slice A5 (xs.length + 1) c5)) w0.heap.size (fun k => k ≠ hp) (.slice A5 (xs.length + 1) c5) (xs ++ [(⟨x0, [], 0⟩, .slice none 0 0)])) := ⟨Kd.R_far HO5.out (fun k hk => hk) _⟩
    have HST6 : Aside0 (RdSt (w5.setCell ⟨hp, 1, none⟩ (.slice A5 (xs.length + 1) c5)) hp (.slice (some ad) b.length c0) (.slice A5 (xs.length + 1) c5) code place) := ⟨heap_set J5.out 1 _⟩
    have HB6 : Aside0 (Below w0.heap.size w0 (w5.setCell ⟨hp, 1, none⟩ (.slice A5 (xs.length + 1) c5))) := ⟨below_set HB5.out hhp⟩
    generalize w5.setCell ⟨hp, 1, none⟩ (.slice A5 (xs.length + 1) c5) = W6 at HO6 HST6 HB6 ⊢
    clear x5 y5 z1 HO5 HB5 J5 HROW1 HB1 HST1
    by_cases c12 : madeT x0 = true
    · rw [c12] at HMD
      obtain ⟨g', hg'⟩ : ∃ g', g = g' + 1 := ⟨g - 1, by omega⟩
      have IH := Aside0.mk (ih g' hg')
      have HG' := Aside0.mk hg'
      have hE : Aside0 (∀ res, rdKids (rdItem b g' (f + s)) (f + s) s f = res → rdItem b g e i = (match res with | .error x => .error x | .ok (l, c) => .ok (⟨x0, [], (c : Int)⟩ :: l, f + s))) := ⟨by
        intro res hres
        subst hg'
        unfold rdItem
        rw [HF2.out]
        show (if madeT x0 = true then _ else _) = _
        rw [if_pos c12, hres]⟩
      clear hg'
      have hpf : (0 : Int) ≤ (f : Int) := by omega
      go_wp2_with (first | (go_at_call 48; refine (impl_isMade.calls x0 true W6 HMD.out).mono ?_; rintro ex w' ⟨rfl, ⟨nd, rfl⟩⟩))
      have HO7 := Aside0.mk (Kd.R_drewN HO6.out nd)
      have HST7 : Aside0 (RdSt (W6.drewN nd) hp (.slice (some ad) b.length c0) (.slice A5 (xs.length + 1) c5) code place) := HST6
      have HB7 := Aside0.mk (pw_below_drewN HB6.out nd)
      generalize W6.drewN nd = W7 at HO7 HST7 HB7 ⊢
      clear HO6 HST6 HB6
      go_loopg [14] s (fun gk v14 wr => ∃ (n c : Nat) (A : Option Addr) (c6 : Nat) (ys : List (S52 × Value)), v14 = .int .i64 (n : Int) ∧ n ≤ f + s ∧ f + c ≤ n ∧ f + ys.length ≤ n ∧ f + s ≤ n + gk ∧ Aside0 (rdKids (rdItem b g' (f + s)) (f + s) s f = addK (ys.map (·.1)) c (rdKids (rdItem b g' (f + s)) (f + s) gk n)) ∧
        Aside0 (RdSt wr hp (.slice (some ad) b.length c0) (.slice A (xs ++ ((⟨x0, [], (c : Int)⟩ : S52), Value.slice none 0 0) :: ys).length c6) code place) ∧ Aside0 (kB.R 52 wr w0.heap.size (fun k => k ≠ hp) (.slice A (xs ++ ((⟨x0, [], (c : Int)⟩ : S52), Value.slice none 0 0) :: ys).length c6) (xs ++ ((⟨x0, [], (c : Int)⟩ : S52), Value.slice none 0 0) :: ys)) ∧
        Aside0 (blocks (xs ++ ((⟨x0, [], (c : Int)⟩ : S52), Value.slice none 0 0) :: ys)).Nodup ∧ Aside0 (Below w0.heap.size w0 wr))
      case atStart =>
        refine ⟨f, 0, A5, c5, [], rfl, by omega, by omega, by simp, by omega, ⟨?_⟩, ⟨?_⟩, ⟨?_⟩, ⟨?_⟩, HB7⟩
        · cases rdKids (rdItem b g' (f + s)) (f + s) s f with
          | error x => rfl
          | ok y => simp [addK]
        · rw [List.length_append, List.length_singleton]
          exact HST7.out
        · rw [List.length_append, List.length_singleton]
          exact HO7.out
        · have e : blocks (xs ++ [((⟨x0, [], ((0 : Nat) : Int)⟩ : S52), Value.slice none 0 0)]) = blocks xs := by
            rw [blocks_append]
            simp [blocks, Value.ownBlock]
          rw [e]
          exact HND.out
      case round =>
        obtain ⟨n, c, A, c6, ys, rfl, hn1, hn2, hn3, hn4, HK, HSTr, HOr, HNr, HBr⟩ := hrel
        obtain ⟨N, hN⟩ : ∃ N, (xs ++ ((⟨x0, [], (c : Int)⟩ : S52), Value.slice none 0 0) :: ys).length = N := ⟨_, rfl⟩
        have hNl : N = xs.length + 1 + ys.length := by rw [← hN, List.length_append, List.length_cons]; omega
        have HNL := Aside0.mk hNl
        rw [hN] at HSTr HOr
        have HNN := Aside0.mk hN
        clear hN hNl
        by_cases hlt : (n : Int) < (f : Int) + (s : Int)
        · obtain ⟨gk, rfl⟩ : ∃ q, gk = q + 1 := ⟨gk - 1, by omega⟩
          have hcall := IH.out n (f + s) wr hp A c6 code place (xs ++ ((⟨x0, [], (c : Int)⟩ : S52), Value.slice none 0 0) :: ys) (by omega) (by omega) HBr.out hhp (by rw [HNN.out]; exact HSTr.out) (by rw [HNN.out]; exact HOr.out) HNr.out (by rw [HNN.out, HNL.out]; omega)
          rw [show (13 : Int) - (g' : Int) = 13 - (g : Int) + 1 by rw [HG'.out]; omega, Int.natCast_add] at hcall
          cases hx : rdItem b g' (f + s) n with
          | error x =>
            rw [hx] at hcall
            have HCALL := Aside0.mk hcall
            have HE : Aside0 (rdItem b g e i = .error (x.1, x.2)) := ⟨by
              have h1 := hE.out _ HK.out
              rw [h1]
              unfold rdKids
              rw [if_pos (by omega), hx]
              rfl⟩
            clear hcall hx
            go_wp2_with fail
            refine HCALL.out.mono ?_
            rintro ex w1 ⟨rfl, ⟨lv, h1⟩, h2⟩
            have HP := Aside0.mk (itemPost_error (code := code) (place := place) (xs := xs) HE.out rfl h1 h2)
            clear h1 h2
            go_wp2
            go_ret
            exact HP.out
          | ok y =>
            obtain ⟨l1, nx⟩ := y
            have hle := rdItem_ok HBY.out g' (f + s) n l1 nx hx
            rw [hx] at hcall
            have HCALL := Aside0.mk hcall
            have HK2 : Aside0 (∀ q, addK (ys.map (·.1)) c (rdKids (rdItem b g' (f + s)) (f + s) (gk + 1) n) = q → addK (ys.map (·.1) ++ l1) (c + 1) (rdKids (rdItem b g' (f + s)) (f + s) gk nx) = q) := ⟨by
              intro q hq
              rw [← hq]
              conv => rhs; unfold rdKids
              rw [if_pos (by omega), hx]
              simp only
              cases rdKids (rdItem b g' (f + s)) (f + s) gk nx with
              | error x => rfl
              | ok z => simp [addK]; omega⟩
            clear hcall hx
            go_wp2_with fail
            refine HCALL.out.mono ?_
            rintro ex w1 ⟨rfl, A1, c1, zs, hz, h1, h2, h3, h4⟩
            obtain ⟨N1, hN1⟩ : ∃ N1, ((xs ++ ((⟨x0, [], (c : Int)⟩ : S52), Value.slice none 0 0) :: ys) ++ zs).length = N1 := ⟨_, rfl⟩
            have hNl1 : N1 = xs.length + 1 + ys.length + zs.length := by rw [← hN1, List.length_append, HNN.out, HNL.out]
            have hz : zs.map (·.1) = l1 := hz
            have hzl : zs.length = l1.length := by rw [← hz, List.length_map]
            obtain ⟨g5, cap5, cur5, hv5, hok5, hbg5, hg5, hn5, hcm5, hcs5, hx5⟩ := kB_raw h2 (by simp)
            have hj5 : xs.length < ((xs ++ ((⟨x0, [], (c : Int)⟩ : S52), Value.slice none 0 0) :: ys) ++ zs).length := by rw [hN1, hNl1]; omega
            have hxl5 := hx5 xs.length hj5
            have eq5 : ((xs ++ ((⟨x0, [], (c : Int)⟩ : S52), Value.slice none 0 0) :: ys) ++ zs)[xs.length]'hj5 = (⟨x0, [], (c : Int)⟩, .slice none 0 0) := by simp
            rw [eq5] at hxl5
            have hset := kB_set (hv5 ▸ h2) xs.length 2 (.int .i64 ((c : Int) + 1)) (⟨x0, [], ((c + 1 : Nat) : Int)⟩, .slice none 0 0) hj5 (by omega) (by rw [eq5]; rfl) (by rw [eq5]; rfl) (by simp) (Kd.R_nil _ _ _ _ _)
            have esl : (((xs ++ ((⟨x0, [], (c : Int)⟩ : S52), Value.slice none 0 0) :: ys) ++ zs).set xs.length (⟨x0, [], ((c + 1 : Nat) : Int)⟩, .slice none 0 0)) = xs ++ ((⟨x0, [], ((c + 1 : Nat) : Int)⟩ : S52), Value.slice none 0 0) :: (ys ++ zs) := by
              rw [List.append_assoc, List.set_append_right _ _ (Nat.le_refl _), Nat.sub_self]
              rfl
            rw [esl] at hset
            have hst5 := h1
            rw [hv5] at hst5
            rw [hN1] at hst5 hset
            have hne5 : hp ≠ g5 := fun e => hok5 e.symm
            have hst9 : RdSt (w1.setCell ⟨g5, xs.length * 3 + 2, none⟩ (.int .i64 ((c : Int) + 1))) hp (.slice (some ad) b.length c0) (.slice (some ⟨g5, 0, none⟩) N1 cap5) code place := (heap_other _ _ _ _ _ hne5).trans hst5
            have s1 : w1.cell? ⟨hp, 1, none⟩ = some (.slice (some ⟨g5, 0, none⟩) N1 cap5) := cell_at hst5 1
            have s2 : w1.cell? ⟨g5, xs.length * 3 + 2, none⟩ = some (.int .i64 (c : Int)) := (cell_at hg5 _).trans hxl5.c2
            have s3 : w1.frozen? ⟨g5, xs.length * 3 + 2, none⟩ = false := free_at hg5 _
            have hnd9 : (blocks (xs ++ ((⟨x0, [], ((c + 1 : Nat) : Int)⟩ : S52), Value.slice none 0 0) :: (ys ++ zs))).Nodup := by
              have e1 : blocks (xs ++ ((⟨x0, [], ((c + 1 : Nat) : Int)⟩ : S52), Value.slice none 0 0) :: (ys ++ zs)) = blocks ((xs ++ ((⟨x0, [], (c : Int)⟩ : S52), Value.slice none 0 0) :: ys) ++ zs) := by rw [List.append_assoc, blocks_append, blocks_append, List.cons_append, blocks_nil, blocks_nil]
              rw [e1]
              exact h3
            have HSET := Aside0.mk hset
            have HST9 := Aside0.mk hst9
            have HND9 := Aside0.mk hnd9
            have HB9 : Aside0 (Below w0.heap.size w0 (w1.setCell ⟨g5, xs.length * 3 + 2, none⟩ (.int .i64 ((c : Int) + 1)))) := ⟨below_set h4 hbg5⟩
            have HZ := Aside0.mk hz
            have HZL : Aside0 (zs.length = l1.length) := ⟨hzl⟩
            have HN1 := Aside0.mk hN1
            have px : (0 : Int) ≤ (xs.length : Int) := by omega
            have px2 : (xs.length : Int) < (N1 : Int) := by omega
            clear h1 h2 h3 h4 hset hst9 hst5 hnd9 hz hx5 hxl5 eq5 esl hg5 hcs5 hv5 hN1 hNl1 hzl hj5 HNN HNL
            go_wp2
            go_roundg gk
            case measure => omega
            case rel =>
              have hNe : (xs ++ ((⟨x0, [], ((c + 1 : Nat) : Int)⟩ : S52), Value.slice none 0 0) :: (ys ++ zs)).length = N1 := by
                rw [← HN1.out]
                simp
              refine ⟨nx, c + 1, some ⟨g5, 0, none⟩, cap5, ys ++ zs, rfl, by omega, by omega, by rw [List.length_append, HZL.out]; omega, by omega, ⟨?_⟩, ⟨?_⟩, ⟨?_⟩, HND9, HB9⟩
              · rw [List.map_append, HZ.out, HK.out]
                exact (HK2.out _ rfl).symm
              · rw [hNe]
                exact HST9.out
              · rw [hNe]
                exact HSET.out
        · obtain rfl : n = f + s := by omega
          have hend : rdKids (rdItem b g' (f + s)) (f + s) gk (f + s) = .ok ([], 0) := by
            cases gk with
            | zero => rfl
            | succ q =>
              unfold rdKids
              rw [if_neg (by omega)]
          have HE : Aside0 (rdItem b g e i = .ok (⟨x0, [], (c : Int)⟩ :: ys.map (·.1), f + s)) := ⟨by
            have h1 := hE.out _ HK.out
            rw [h1, hend]
            simp [addK]⟩
          have hpost := itemPost_ok (code := code) (place := place) (ex := .returned (.int .i64 ((f : Int) + (s : Int)))) HE.out (congrArg (fun q => Ending.returned (Value.int .i64 q)) (by omega)) (((⟨x0, [], (c : Int)⟩ : S52), Value.slice none 0 0) :: ys) rfl (by rw [HNN.out]; exact HSTr.out) (by rw [HNN.out]; exact HOr.out) HNr.out HBr.out
          have HP := Aside0.mk hpost
          clear hpost hend
          go_wp2
          go_ret
          exact HP.out
    · replace c12 : madeT x0 = false := Bool.eq_false_iff.2 c12
      rw [c12] at HMD
      go_upto_region 27 with (first | (go_at_call 48; refine (impl_isMade.calls x0 false W6 HMD.out).mono ?_; rintro ex w' ⟨rfl, ⟨nd, rfl⟩⟩))
      have HO7 := Aside0.mk (Kd.R_drewN HO6.out nd)
      have HST7 : Aside0 (RdSt (W6.drewN nd) hp (.slice (some ad) b.length c0) (.slice A5 (xs.length + 1) c5) code place) := HST6
      have HB7 := Aside0.mk (pw_below_drewN HB6.out nd)
      generalize W6.drewN nd = W7 at HO7 HST7 HB7 ⊢
      clear HO6 HST6 HB6
      have hbl : ((b.drop f).take s).length = s := by rw [List.length_take, List.length_drop]; omega
      have hrun : ∃ A' : Option Addr, (∀ W : World, (Instr.slice 38 (.slice (some ad) b.length c0) (some (.int .i64 (f : Int))) (some (.int .i64 ((f : Int) + (s : Int)))) none).run Try.prog W = .ok (.slice A' s (c0 - f)) W) ∧ (∀ W : World, Below w0.heap.size w0 W → (Kd.int .u8).C W A' s ((b.drop f).take s)) := by
        obtain ⟨i5, hi5⟩ : ∃ i5, Try.prog.info? 5 = some i5 ∧ i5.size = 1 := by
          obtain ⟨i5, h1, h2⟩ := Option.map_eq_some_iff.1 info5
          exact ⟨i5, h1, congrArg (fun q : Option Value × Nat × Nat => q.2.1) h2⟩
        refine ⟨if c0 = f then some ad else (some ad).map (·.add (f * 1)), fun W => (cut_mid (P := Try.prog) 38 5 .i64 .i64 Try.underlying38 hi5.1 1 hi5.2 (some ad) b.length c0 (f : Int) ((f : Int) + (s : Int)) (by omega) (by omega) (by omega) hc0 W).trans ?_, fun W hW => ?_⟩
        · rw [Int.toNat_natCast, show ((f : Int) + (s : Int)).toNat - f = s by omega]
        · have h := Kd.C_mid (k := Kd.int .u8) (lo := f) (hi := f + s) (Kd.C_below HR0.out hW) (by omega) (by omega) hc0
          rw [List.drop_take, show f + s - f = s by omega, hbl] at h
          exact h
      obtain ⟨A', hrun, hC'⟩ := hrun
      obtain ⟨g5, cap5, cur5, hv5, hok5, hbg5, hg5, hn5, hcm5, hcs5, hx5⟩ := kB_raw HO7.out (by simp)
      rw [List.length_append, List.length_singleton] at hv5 hn5
      injection hv5 with q1 q2 q3
      subst q1 q3
      have hxl5 := hx5 xs.length (by simp)
      have eq5 : (xs ++ [((⟨x0, [], 0⟩ : S52), Value.slice none 0 0)])[xs.length]'(by simp) = (⟨x0, [], 0⟩, .slice none 0 0) := by simp
      rw [eq5] at hxl5
      have hcl : Calls Try.prog 64 #[.slice A' s (c0 - f)] W7.drew fun ex w' => ∃ (A2 : Option Addr) (c2 : Nat), ex = .returned (.slice A2 s c2) ∧ Aside0 ((Kd.int .u8).R 5 w' W7.heap.size (fun _ => True) (.slice A2 s c2) ((b.drop f).take s)) ∧ Aside0 (Below W7.heap.size W7 w') ∧ w'.cell? ⟨hp, 0, none⟩ = some (.slice (some ad) b.length c0) ∧ w'.cell? ⟨hp, 1, none⟩ = some (.slice (some ⟨g5, 0, none⟩) (xs.length + 1) c5) ∧ w'.cell? ⟨g5, xs.length * 3 + 1, none⟩ = some (.slice none 0 0) ∧ w'.frozen? ⟨g5, xs.length * 3 + 1, none⟩ = false := by
        have := clone_calls A' (c0 - f) ((b.drop f).take s) W7.drew (by rw [hbl]; exact Kd.C_drew (hC' W7 HB7.out)) (by rw [hbl]; omega)
        rw [hbl] at this
        refine this.mono ?_
        rintro ex w' ⟨A2, c2, rfl, ho, hb⟩
        have hb' : Below W7.heap.size W7 w' := ⟨hb.os, hb.tape, hb.output, hb.size, hb.block⟩
        have k0 := (hb'.block hp (Array.getElem?_eq_some_iff.1 HST7.out).1).trans HST7.out
        have k1 := (hb'.block g5 (Array.getElem?_eq_some_iff.1 hg5).1).trans hg5
        exact ⟨A2, c2, rfl, ⟨ho⟩, ⟨hb'⟩, cell_at k0 0, cell_at k0 1, (cell_at k1 _).trans hxl5.c1, free_at k1 _⟩
      have HCL := Aside0.mk hcl
      have HG5 := Aside0.mk hg5
      have HOK5 : Aside0 (g5 ≠ hp) := ⟨hok5⟩
      have s0 : W7.cell? ⟨hp, 0, none⟩ = some (.slice (some ad) b.length c0) := cell_at HST7.out 0
      have s1 : W7.cell? ⟨hp, 1, none⟩ = some (.slice (some ⟨g5, 0, none⟩) (xs.length + 1) c5) := cell_at HST7.out 1
      have hne5 : hp ≠ g5 := fun e => hok5 e.symm
      have p5 : (0 : Int) ≤ (xs.length : Int) := by omega
      clear hcl hx5 hxl5 hg5 hcs5 hbl hC' hok5 eq5
      have hsum : IntKind.i64.wrap ((f : Int) + (s : Int)) = (f : Int) + (s : Int) := by rw [IntKind.wrap_i64]; omega
      have hpf : (0 : Int) ≤ (f : Int) := by omega
      have hps : (f : Int) ≤ (f : Int) + (s : Int) := by omega
      have hpe : (f : Int) + (s : Int) ≤ (b.length : Int) := by omega
      have hx1'' : (xs.length : Int) < (xs.length : Int) + 1 := by omega
      have hx1' : (xs.length : Int) < ((xs.length + 1 : Nat) : Int) := by omega
      go_region_held3 (fun w' => w'.cell? ⟨hp, 0, none⟩ = some (.slice (some ad) b.length c0) ∧ w'.cell? ⟨hp, 1, none⟩ = some (.slice (some ⟨g5, 0, none⟩) (xs.length + 1) c5)) ((first | go_keep | exact ⟨(far_cell hne5 _ _ _).trans m0, (far_cell hne5 _ _ _).trans m1⟩)) ((go_at_call 64; refine HCL.out.mono ?_; rintro ex w2 ⟨A2, c2, rfl, HO, HB2, m0, m1, m2, m3⟩))
      have HE : Aside0 (rdItem b g e i = .ok ([⟨x0, (b.drop f).take s, 0⟩], f + s)) := ⟨by
        obtain ⟨g', rfl⟩ : ∃ g', g = g' + 1 := ⟨g - 1, by omega⟩
        unfold rdItem
        rw [HF2.out]
        show (if madeT x0 = true then _ else _) = _
        rw [if_neg (by rw [c12]; simp)]⟩
      have hR8 : kB.R 52 w2 w0.heap.size (fun k => k ≠ hp) (.slice (some ⟨g5, 0, none⟩) (xs.length + 1) c5) (xs ++ [(⟨x0, [], 0⟩, .slice none 0 0)]) := Kd.R_below HO7.out HB2.out
      have hgl := (Array.getElem?_eq_some_iff.1 HG5.out).1
      have hhl := (Array.getElem?_eq_some_iff.1 HST7.out).1
      have hb8 : (Kd.int .u8).R 5 w2 w0.heap.size (fun k => k ≠ hp ∧ k ≠ g5) (.slice A2 s c2) ((b.drop f).take s) := Kd.R_lower (Kd.R_mono (Kd.R_bound HO.out) (fun k hk => by have := hk.2.1; constructor <;> omega)) HB7.out.size
      have hR9 := kB_set hR8 xs.length 1 (.slice A2 s c2) (⟨x0, (b.drop f).take s, 0⟩, .slice A2 s c2) (by simp) (by omega) (by simp) (by simp) (by simp) hb8
      rw [List.set_append_right _ _ (Nat.le_refl _), Nat.sub_self] at hR9
      have hR9 : kB.R 52 (w2.setCell ⟨g5, xs.length * 3 + 1, none⟩ (.slice A2 s c2)) w0.heap.size (fun k => k ≠ hp) (.slice (some ⟨g5, 0, none⟩) (xs.length + 1) c5) (xs ++ [(⟨x0, (b.drop f).take s, 0⟩, .slice A2 s c2)]) := hR9
      have hst9 : RdSt (w2.setCell ⟨g5, xs.length * 3 + 1, none⟩ (.slice A2 s c2)) hp (.slice (some ad) b.length c0) (.slice (some ⟨g5, 0, none⟩) (xs.length + 1) c5) code place := (heap_other _ _ _ _ _ hne5).trans ((HB2.out.block hp hhl).trans HST7.out)
      have hb9 : Below w0.heap.size w0 (w2.setCell ⟨g5, xs.length * 3 + 1, none⟩ (.slice A2 s c2)) := below_set (below_then HB7.out HB7.out.size HB2.out) hbg5
      have hnd9 : (blocks (xs ++ [((⟨x0, (b.drop f).take s, 0⟩ : S52), Value.slice A2 s c2)])).Nodup := by
        rw [blocks_append, List.nodup_append]
        refine ⟨HND.out, ?_, fun p hp1 q hq e1 => ?_⟩
        · unfold blocks
          cases A2 with
          | none => simp [Value.ownBlock]
          | some a => cases a with
            | mk b o f => simp only [List.filterMap_cons, List.filterMap_nil]; split <;> simp
        · have h1 := kB_blocks HO7.out p (by rw [blocks_append]; exact List.mem_append_left _ hp1)
          obtain ⟨x, hx, hxb⟩ := List.mem_filterMap.1 hq
          rw [List.mem_singleton.1 hx] at hxb
          have := Kd.R_base HO.out q hxb
          omega
      have hpost := itemPost_ok (code := code) (place := place) (ex := .returned (.int .i64 ((f : Int) + (s : Int)))) HE.out (congrArg (fun q => Ending.returned (Value.int .i64 q)) (by omega)) [(⟨x0, (b.drop f).take s, 0⟩, .slice A2 s c2)] rfl (by rw [List.length_append]; exact hst9) (by rw [List.length_append]; exact hR9) hnd9 hb9
      have HP := Aside0.mk hpost
      clear hpost hR9 hst9 hb9 hnd9 hR8 hb8 m0 m1 m2 m3
      go_wp2
      go_ret
      exact HP.out
set_option maxHeartbeats 4000000 in
set_option maxRecDepth 100000 in
theorem item_short (hp : Nat) (bv lv : Value) (code place i e dp : Int) (w w0 : World) (hB : Below w0.heap.size w0 w) (hb : w0.heap.size ≤ hp) (h : RdSt w hp bv lv code place) (hie : e ≤ i) :
    Calls Try.prog 53 #[.pointer (some ⟨hp, 0, none⟩), .int .i64 i, .int .i64 e, .int .i64 dp] w fun ex w' => ex = .returned (.int .i64 (-1)) ∧ RdSt w' hp bv lv 2 i ∧ Below w0.heap.size w0 w' := by
  go_enter Try.func53, Try.ntmps53
  go_wp2_with fail
  refine (fail_calls hp bv lv code place 2 i w w0 hB hb h).mono ?_
  rintro ex w1 ⟨rfl, h1, h2⟩
  have H1 := Aside0.mk h1
  have H2 := Aside0.mk h2
  clear h1 h2
  go_wp2
  go_ret
  exact ⟨rfl, H1.out, H2.out⟩
theorem item_calls (b : List Int) (ad : Addr) (c0 : Nat) (w0 : World) (hr0 : Kd.C (Kd.int .u8) w0 (some ad) b.length b) (hc0 : b.length ≤ c0) (hb : ∀ x ∈ b, 0 ≤ x ∧ x ≤ 255) (hl : b.length ≤ 4000) : ∀ g, g ≤ 13 → ItemSpec b ad c0 w0 g
  | 0, hg => fun i e w hp Al cl code place xs he hi hB hhp hst hrow hnd hxl => item_try b ad c0 w0 hr0 hc0 hb hl 0 (fun g' hg' => by omega) i e w hp Al cl code place xs hg he hi hB hhp hst hrow hnd hxl
  | g + 1, hg => fun i e w hp Al cl code place xs he hi hB hhp hst hrow hnd hxl => item_try b ad c0 w0 hr0 hc0 hb hl (g + 1) (fun g' hg' => by
      obtain rfl : g = g' := by omega
      exact item_calls b ad c0 w0 hr0 hc0 hb hl g (by omega)) i e w hp Al cl code place xs hg he hi hB hhp hst hrow hnd hxl
/-! ### impl.ReadDer: function 26 -/
def readDer (b : List Int) : List S52 × Int × Int :=
  if b.length > 4000 then ([], 1, 0) else match rdItem b 13 b.length 0 with
  | .error x => ([], x.1, x.2)
  | .ok y => if y.1.length > 300 then ([], 7, 0) else if y.2 < b.length then ([], 5, (y.2 : Int)) else (y.1, 0, 0)
def DerPost (w : World) (b : List Int) (ex : Ending) (w' : World) : Prop :=
  ∃ (A : Option Addr) (c : Nat) (ys : List (S52 × Value)), ex = .returned (.tuple #[.slice A ys.length c, .int .i64 (readDer b).2.1, .int .i64 (readDer b).2.2]) ∧ ys.map (·.1) = (readDer b).1 ∧ kB.R 52 w' w.heap.size (fun _ => True) (.slice A ys.length c) ys ∧ (blocks ys).Nodup ∧ Below w.heap.size w w'
theorem derPost_nil {w w' : World} {b : List Int} {code place : Int} {ex : Ending} (h : readDer b = ([], code, place)) (he : ex = .returned (.tuple #[.slice none 0 0, .int .i64 code, .int .i64 place])) (hb : Below w.heap.size w w') : DerPost w b ex w' :=
  ⟨none, 0, [], by rw [h, he]; rfl, by rw [h]; rfl, Kd.R_nil _ _ _ _ _, List.nodup_nil, hb⟩
set_option maxHeartbeats 4000000 in
set_option maxRecDepth 100000 in
theorem ReadDer_calls (b : List Int) (A0 : Option Addr) (c0 : Nat) (w : World) (hr0 : Kd.C (Kd.int .u8) w A0 b.length b) (hc0 : b.length ≤ c0) (hb : ∀ x ∈ b, 0 ≤ x ∧ x ≤ 255) :
    Calls Try.prog 26 #[.slice A0 b.length c0] w (DerPost w b) := by
  by_cases c1 : b.length > 4000
  · have HP := Aside0.mk (derPost_nil (w := w) (w' := w) (b := b) (code := 1) (place := 0) (by unfold readDer; rw [if_pos c1]) rfl (Below.refl _ _))
    clear hr0 hb
    go_enter Try.func26, Try.ntmps26
    go_wp2
    go_ret3
    exact HP.out
  have h0 : RdSt (w.alloc (.cells #[.slice A0 b.length c0, .slice none 0 0, .int .i64 0, .int .i64 0] 73)) w.heap.size (.slice A0 b.length c0) (.slice none 0 0) 0 0 := blk_al_new _ _
  have hB1 : Below w.heap.size w (w.alloc (.cells #[.slice A0 b.length c0, .slice none 0 0, .int .i64 0, .int .i64 0] 73)) := below_alloc (Below.refl _ _) _
  have hcall : Calls Try.prog 53 #[.pointer (some ⟨w.heap.size, 0, none⟩), .int .i64 0, .int .i64 (b.length : Int), .int .i64 0] (w.alloc (.cells #[.slice A0 b.length c0, .slice none 0 0, .int .i64 0, .int .i64 0] 73)) (ItemPost w w.heap.size (.slice A0 b.length c0) 0 0 [] (rdItem b 13 b.length 0)) := by
    cases A0 with
    | none =>
      have hbe : b = [] := by
        cases b with
        | nil => rfl
        | cons x t =>
          obtain ⟨ad, e, _⟩ := hr0.2.2 (by simp)
          cases e
      subst hbe
      refine (item_short w.heap.size _ _ 0 0 0 0 0 _ w hB1 (Nat.le_refl _) h0 (by omega)).mono ?_
      rintro ex w' ⟨rfl, h1, h2⟩
      exact itemPost_error (a1 := 2) (a2 := 0) rfl rfl h1 h2
    | some ad => exact item_calls b ad c0 w hr0 hc0 hb (by omega) 13 (Nat.le_refl _) 0 b.length _ w.heap.size none 0 0 0 [] (Nat.le_refl _) (by omega) hB1 (Nat.le_refl _) h0 (Kd.R_nil _ _ _ _ _) List.nodup_nil (by simp; omega)
  have HCALL := Aside0.mk hcall
  clear hcall h0 hB1
  have hu := Try.underlying73
  cases hx : rdItem b 13 b.length 0 with
  | error x =>
    rw [hx] at HCALL
    have HR : Aside0 (readDer b = ([], x.1, x.2)) := ⟨by unfold readDer; rw [if_neg c1, hx]⟩
    clear hx hr0 hb
    go_enter Try.func26, Try.ntmps26
    go_wp2_with fail
    refine HCALL.out.mono ?_
    rintro ex w1 ⟨rfl, ⟨lv, h1⟩, h2⟩
    have x2 : w1.cell? ⟨w.heap.size, 2, none⟩ = some (.int .i64 x.1) := cell_at h1 2
    have x3 : w1.cell? ⟨w.heap.size, 3, none⟩ = some (.int .i64 x.2) := cell_at h1 3
    have H2 := Aside0.mk h2
    clear h1 h2
    go_wp2
    go_quiet (fail)
    go_wp2
    go_ret3
    exact derPost_nil HR.out rfl (pw_below_drewN H2.out _)
  | ok y =>
    obtain ⟨l, nx⟩ := y
    rw [hx] at HCALL
    have hle := rdItem_ok hb 13 b.length 0 l nx hx
    have HX := Aside0.mk hx
    clear hx hr0 hb
    go_enter Try.func26, Try.ntmps26
    go_wp2_with fail
    refine HCALL.out.mono ?_
    rintro ex w1 ⟨rfl, A, c, ys, hz, h1, h2, h3, h4⟩
    have hz : ys.map (·.1) = l := hz
    rw [List.nil_append] at h1 h2 h3
    have hyl : ys.length = l.length := by rw [← hz, List.length_map]
    obtain ⟨N, hN⟩ : ∃ N, ys.length = N := ⟨_, rfl⟩
    rw [hN] at h1 hyl
    have x1 : w1.cell? ⟨w.heap.size, 1, none⟩ = some (.slice A N c) := cell_at h1 1
    have HY : Aside0 (N = l.length) := ⟨hyl⟩
    have HN := Aside0.mk hN
    have H2 := Aside0.mk h2
    have H3 := Aside0.mk h3
    have H4 := Aside0.mk h4
    have HZ := Aside0.mk hz
    clear h1 h2 h3 h4 hz hyl hN
    by_cases c2 : N > 300
    · have HR : Aside0 (readDer b = ([], 7, 0)) := ⟨by unfold readDer; rw [if_neg c1, HX.out]; show (if l.length > 300 then _ else _) = _; rw [if_pos (by rw [← HY.out]; exact c2)]⟩
      go_wp2
      go_ret3
      exact derPost_nil HR.out rfl H4.out
    · by_cases c3 : nx < b.length
      · have HR : Aside0 (readDer b = ([], 5, (nx : Int))) := ⟨by unfold readDer; rw [if_neg c1, HX.out]; show (if l.length > 300 then _ else if nx < b.length then _ else _) = _; rw [if_neg (by rw [← HY.out]; exact c2), if_pos c3]⟩
        go_wp2
        go_ret3
        exact derPost_nil HR.out rfl H4.out
      · have HR : Aside0 (readDer b = (l, 0, 0)) := ⟨by unfold readDer; rw [if_neg c1, HX.out]; show (if l.length > 300 then _ else if nx < b.length then _ else _) = _; rw [if_neg (by rw [← HY.out]; exact c2), if_neg c3]⟩
        go_wp2
        go_ret3
        exact ⟨A, c, ys, by rw [HR.out, HN.out]; rfl, by rw [HR.out]; exact HZ.out, Kd.R_mono H2.out (fun _ _ => trivial), H3.out, H4.out⟩
end Go.Proofs.Ytmeobalddjembaa.GFnStrict.Hand
