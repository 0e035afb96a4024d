import Derived.Test.YtmeobalddjembaaGFnExactReadDerReader
namespace Go.Proofs.Ytmeobalddjembaa.GFnExactReadDer.Hand
open Go.RowKit Go.Proofs.YtmeobalddjembaaW.PrintWords Go.Proofs.YtmeobalddjembaaW.PrintLast Go.Proofs.YtmeobalddjembaaW.PrintMore
set_option linter.unusedVariables false
set_option linter.unusedSimpArgs false
/-! ### the reference's reader -/
theorem l7Size_eq (b : List Int) (hb : ∀ j, 0 ≤ at8 b j ∧ at8 b j ≤ 255) (i e g : Nat) (he : e ≤ b.length) (hl : b.length ≤ 4000) (c1 : ¬ e ≤ i) (c2 : ¬ at8 b i % 32 = 31) (c3 : ¬ g = 0) :
    ∃ n f c : Int, spec_l7Size.f 9 b ((i : Int) + 1) (e : Int) = some (n, f, c) ∧ ((c = 2 ∧ head b i e g = .error (2, (i : Int))) ∨ (c = 4 ∧ head b i e g = .error (4, (i : Int) + 1)) ∨ (c = 0 ∧ ∃ f' : Nat, f = (f' : Int) ∧ head b i e g = headFin (at8 b i) i e f' n ∧ 0 ≤ n ∧ n ≤ 65535 ∧ i + 2 ≤ f' ∧ f' ≤ i + 4)) := by
  unfold head spec_l7Size.f
  rw [if_neg c1, if_neg c2, if_neg c3]
  by_cases c4 : e ≤ i + 1
  · rw [if_pos c4, if_pos (by omega)]
    exact ⟨_, _, _, rfl, .inl ⟨rfl, rfl⟩⟩
  rw [if_neg c4, if_neg (by omega), if_pos (by omega), if_pos (by omega)]
  have e1 : rd b ((i : Int) + 1) = at8 b (i + 1) := rfl
  have h1 := hb (i + 1)
  have h2 := hb (i + 2)
  have h3 := hb (i + 3)
  rw [e1, Base.w64 (x := at8 b (i + 1)) (by omega) (by omega)]
  by_cases c5 : at8 b (i + 1) < 128
  · rw [if_pos c5, if_pos c5, Base.w64 (by omega) (by omega)]
    exact ⟨_, _, _, rfl, .inr (.inr ⟨rfl, i + 2, by omega, rfl, by omega, by omega, by omega, by omega⟩)⟩
  rw [if_neg c5, if_neg c5]
  have ej : ∀ x : Int, spec_l7Size.j0 9 b ((i : Int) + 1) (e : Int) x true = some (0, (i : Int) + 1, 4) := fun x => rfl
  by_cases c6 : at8 b (i + 1) = 128
  · rw [if_pos c6, if_pos (.inl c6), ej]
    exact ⟨_, _, _, rfl, .inr (.inl ⟨rfl, rfl⟩)⟩
  rw [if_neg c6]
  by_cases c7 : at8 b (i + 1) > 130
  · rw [decide_eq_true c7, if_pos (.inr c7), ej]
    exact ⟨_, _, _, rfl, .inr (.inl ⟨rfl, rfl⟩)⟩
  rw [decide_eq_false c7, if_neg (by omega)]
  have ej2 := spec_l7Size.j0.eq_2 b ((i : Int) + 1) (e : Int) (at8 b (i + 1)) false 8
  rw [ej2, if_neg (by simp), Base.w64 (x := at8 b (i + 1) - 128) (by omega) (by omega), Base.w64 (x := (i : Int) + 1 + (at8 b (i + 1) - 128)) (by omega) (by omega), Base.w64 (x := (i : Int) + 1 + 1) (by omega) (by omega)]
  have e2 : rd b ((i : Int) + 1 + 1) = at8 b (i + 2) := rfl
  rw [e2, Base.w64 (x := at8 b (i + 2)) (by omega) (by omega)]
  by_cases c8 : at8 b (i + 1) = 129
  · rw [if_pos c8]
    by_cases c9 : e < i + 3
    · rw [if_pos c9, if_pos (by omega)]
      exact ⟨_, _, _, rfl, .inl ⟨rfl, rfl⟩⟩
    rw [if_neg c9, if_neg (by omega), if_pos (by omega), if_pos (by omega), if_neg (by omega)]
    by_cases c10 : at8 b (i + 2) < 128
    · rw [if_pos c10, if_pos c10]
      exact ⟨_, _, _, rfl, .inr (.inl ⟨rfl, rfl⟩)⟩
    · rw [if_neg c10, if_neg c10, Base.w64 (by omega) (by omega)]
      exact ⟨_, _, _, rfl, .inr (.inr ⟨rfl, i + 3, by omega, rfl, by omega, by omega, by omega, by omega⟩)⟩
  · rw [if_neg c8]
    by_cases c9 : e < i + 4
    · rw [if_pos c9, if_pos (by omega)]
      exact ⟨_, _, _, rfl, .inl ⟨rfl, rfl⟩⟩
    have e3 : rd b ((i : Int) + 1 + 2) = at8 b (i + 3) := rfl
    rw [if_neg c9, if_neg (by omega), if_pos (by omega), if_pos (by omega), if_pos (by omega), Base.w64 (x := (i : Int) + 1 + 2) (by omega) (by omega), if_pos (by omega), if_pos (by omega), e3, Base.w64 (x := at8 b (i + 3)) (by omega) (by omega), Base.w64 (x := at8 b (i + 2) * 256) (by omega) (by omega), Base.w64 (x := at8 b (i + 2) * 256 + at8 b (i + 3)) (by omega) (by omega)]
    by_cases c10 : at8 b (i + 2) * 256 + at8 b (i + 3) < 256
    · by_cases c11 : at8 b (i + 2) * 256 + at8 b (i + 3) < 128
      · simp only [if_pos c11, if_pos c10]
        exact ⟨_, _, _, rfl, .inr (.inl ⟨rfl, trivial⟩)⟩
      · simp only [if_neg c11, if_pos c10]
        exact ⟨_, _, _, rfl, .inr (.inl ⟨rfl, trivial⟩)⟩
    · rw [if_neg c10, if_neg (by omega), if_neg c10, Base.w64 (by omega) (by omega)]
      exact ⟨_, _, _, rfl, .inr (.inr ⟨rfl, i + 4, by omega, rfl, by omega, by omega, by omega, by omega⟩)⟩
theorem rdItem_code {b : List Int} (hb : ∀ x ∈ b, 0 ≤ x ∧ x ≤ 255) : ∀ (g e i : Nat) (x : Int × Int), rdItem b g e i = .error x → x.1 ≠ 0 := by
  have hh : ∀ (g e i : Nat) (x : Int × Int), head b i e g = .error x → x.1 ≠ 0 := by
    intro g e i x h
    have hf : ∀ (q : Nat) (t : Int), headFin (at8 b i) i e q t = .error x → x.1 ≠ 0 := by
      intro q t hq
      unfold headFin at hq
      by_cases c : (e : Int) < (q : Int) + t
      · rw [if_pos c] at hq
        injection hq with hq
        subst hq
        simp
      · rw [if_neg c] at hq
        cases hq
    unfold head at h
    repeat' split at h
    all_goals first | exact hf _ _ h | (injection h with h; subst h; simp)
  have hk : ∀ (f : Nat → Except (Int × Int) (List S52 × Nat)) (stop : Nat), (∀ i x, f i = .error x → x.1 ≠ 0) → ∀ n next x, rdKids f stop n next = .error x → x.1 ≠ 0 := by
    intro f stop hf n
    induction n with
    | zero =>
      intro next x h
      cases h
    | succ n ih =>
      intro next x h
      unfold rdKids at h
      by_cases c : next < stop
      · rw [if_pos c] at h
        cases hx : f next with
        | error y =>
          rw [hx] at h
          injection h with h
          subst h
          exact hf _ _ hx
        | ok y =>
          rw [hx] at h
          simp only at h
          cases hy : rdKids f stop n y.2 with
          | error z =>
            rw [hy] at h
            injection h with h
            subst h
            exact ih _ _ hy
          | ok z =>
            rw [hy] at h
            cases h
      · rw [if_neg c] at h
        cases h
  intro g
  induction g with
  | zero =>
    intro e i x h
    unfold rdItem at h
    cases hx : head b i e 0 with
    | error y =>
      rw [hx] at h
      injection h with h
      subst h
      exact hh _ _ _ _ hx
    | ok y =>
      obtain ⟨t, f, s⟩ := y
      exact absurd rfl (head_ok hb hx).2.2.2.2
  | succ g ih =>
    intro e i x h
    unfold rdItem at h
    cases hx : head b i e (g + 1) with
    | error y =>
      rw [hx] at h
      injection h with h
      subst h
      exact hh _ _ _ _ hx
    | ok y =>
      obtain ⟨t, f, s⟩ := y
      rw [hx] at h
      simp only at h
      by_cases c : madeT t = true
      · rw [if_pos c] at h
        cases hy : rdKids (rdItem b g (f + s)) (f + s) s f with
        | error z =>
          rw [hy] at h
          injection h with h
          subst h
          exact hk _ _ (fun i x hx => ih _ _ _ hx) _ _ _ hy
        | ok z =>
          rw [hy] at h
          cases h
      · rw [if_neg c] at h
        cases h
theorem madeT_spec (t : Int) (h0 : 0 ≤ t) (h1 : t ≤ 255) : spec_l7Made.f t = some (madeT t) := by
  unfold spec_l7Made.f madeT
  rw [Int.tdiv_eq_ediv_of_nonneg h0, Base.w64 (by omega) (by omega), Int.tmod_eq_emod_of_nonneg (by omega)]
  congr 1
theorem four_set {w : World} {g : Nat} {t : TypeId} {v0 v1 v2 v3 : Value} (h : w.heap[g]? = some (.cells #[v0, v1, v2, v3] t (0, 0))) (a b c d : Value) :
    (w.cell? ⟨g, 0, none⟩ = some v0 ∧ w.frozen? ⟨g, 0, none⟩ = false ∧ (w.setCell ⟨g, 0, none⟩ a).cell? ⟨g, 1, none⟩ = some v1 ∧ (w.setCell ⟨g, 0, none⟩ a).frozen? ⟨g, 1, none⟩ = false ∧
    ((w.setCell ⟨g, 0, none⟩ a).setCell ⟨g, 1, none⟩ b).cell? ⟨g, 2, none⟩ = some v2 ∧ ((w.setCell ⟨g, 0, none⟩ a).setCell ⟨g, 1, none⟩ b).frozen? ⟨g, 2, none⟩ = false ∧
    (((w.setCell ⟨g, 0, none⟩ a).setCell ⟨g, 1, none⟩ b).setCell ⟨g, 2, none⟩ c).cell? ⟨g, 3, none⟩ = some v3 ∧ (((w.setCell ⟨g, 0, none⟩ a).setCell ⟨g, 1, none⟩ b).setCell ⟨g, 2, none⟩ c).frozen? ⟨g, 3, none⟩ = false) ∧
    ((((w.setCell ⟨g, 0, none⟩ a).setCell ⟨g, 1, none⟩ b).setCell ⟨g, 2, none⟩ c).setCell ⟨g, 3, none⟩ d).heap[g]? = some (.cells #[a, b, c, d] t (0, 0)) := by
  have k1 := heap_set h 0 a
  have k2 := heap_set k1 1 b
  have k3 := heap_set k2 2 c
  have k4 := heap_set k3 3 d
  exact ⟨⟨cell_at h 0, free_at h 0, cell_at k1 1, free_at k1 1, cell_at k2 2, free_at k2 2, cell_at k3 3, free_at k3 3⟩, k4⟩
set_option maxHeartbeats 4000000 in
set_option maxRecDepth 100000 in
theorem l7Fail_calls (A B : Option Addr) (n m c d : Nat) (code place a1 a2 : Int) (w : World) :
    Calls Try.prog 65 #[.agg #[.slice A n c, .slice B m d, .int .i64 code, .int .i64 place], .int .i64 a1, .int .i64 a2] w fun e w' => e = .returned (.agg #[.slice A n c, .slice B m d, .int .i64 a1, .int .i64 a2]) ∧ Below w.heap.size w w' := by
  have hu := Try.underlying68
  go_enter Try.func65, Try.ntmps65
  go_wp2
  have h1 := blk_al_new (w.alloc (.cells #[.slice A n c, .slice B m d, .int .i64 a1, .int .i64 a2] 68)) (.cells #[.slice A n c, .slice B m d, .int .i64 a1, .int .i64 a2] 68)
  rw [size_al] at h1
  refine bodyPost_ret (results_cell_row rfl _ _ (w.heap.size + 1) 68 #[.slice A n c, .slice B m d, .int .i64 a1, .int .i64 a2] (0, 0) _ rfl h1 Try.underlying68 rfl (by kernel_rfl)) rfl ?_
  exact ⟨rfl, below_alloc (below_alloc (Below.refl _ _) _) _⟩
/-! ### spec.l7Read: function 52 -/
def SPost (w0 w : World) (bv : Value) (place : Int) (ok : Nat → Prop) (lv : Value) (xs : List (S52 × Value)) (res : Except (Int × Int) (List S52 × Nat)) (ex : Ending) (w' : World) : Prop :=
  w.grownBy w' lv.ownBlock ∧ match res with
  | .error x => ∃ (A : Option Addr) (n c : Nat) (p : Int), ex = .returned (.tuple #[.agg #[bv, .slice A n c, .int .i64 x.1, .int .i64 x.2], .int .i64 p])
  | .ok y => ∃ (A : Option Addr) (c : Nat) (ys : List (S52 × Value)), ex = .returned (.tuple #[.agg #[bv, .slice A (xs ++ ys).length c, .int .i64 0, .int .i64 place], .int .i64 (y.2 : Int)]) ∧ ys.map (·.1) = y.1 ∧ kB.R 52 w' w0.heap.size ok (.slice A (xs ++ ys).length c) (xs ++ ys) ∧ (blocks (xs ++ ys)).Nodup ∧ ∀ k, k < w.heap.size → (Value.slice A (xs ++ ys).length c).ownBlock = some k → lv.ownBlock = some k
def SSpec (b : List Int) (ad : Addr) (c0 : Nat) (w0 : World) (g : Nat) : Prop := ∀ (i e : Nat) (w : World) (Al : Option Addr) (cl : Nat) (place : Int) (ok : Nat → Prop) (xs : List (S52 × Value)), e ≤ b.length → i ≤ 4000 → Below w0.heap.size w0 w → (∀ k, w.heap.size ≤ k → ok k) →
  kB.R 52 w w0.heap.size ok (.slice Al xs.length cl) xs → (blocks xs).Nodup → xs.length + (e - i) ≤ 5000 →
  Calls Try.prog 52 #[.agg #[.slice (some ad) b.length c0, .slice Al xs.length cl, .int .i64 0, .int .i64 place], .int .i64 (i : Int), .int .i64 (e : Int), .int .i64 (13 - (g : Int))] w (SPost w0 w (.slice (some ad) b.length c0) place ok (.slice Al xs.length cl) xs (rdItem b g e i))
theorem grown_trans {a b c : World} {row : Option Nat} (h : a.grownBy b row) (h2 : Below b.heap.size b c) : a.grownBy c row :=
  ⟨h2.os.trans h.os, h2.tape.trans h.tape, h2.output.trans h.output, Nat.le_trans h.size h2.size, fun k hk hn => (h2.block k (Nat.lt_of_lt_of_le hk h.size)).trans (h.block k hk hn)⟩
theorem grown_set {a b : World} {row : Option Nat} (h : a.grownBy b row) {g : Nat} (hg : a.heap.size ≤ g) (o : Nat) (v : Value) : a.grownBy (b.setCell ⟨g, o, none⟩ v) row :=
  ⟨h.os, h.tape, h.output, by simpa [World.setCell] using h.size, fun k hk hn => (heap_other _ _ _ _ _ (by omega)).trans (h.block k hk hn)⟩
theorem grown_set4 {a b : World} {row : Option Nat} (h : a.grownBy b row) {g : Nat} (hg : a.heap.size ≤ g) (u0 u1 u2 u3 : Value) : a.grownBy ((((b.setCell ⟨g, 0, none⟩ u0).setCell ⟨g, 1, none⟩ u1).setCell ⟨g, 2, none⟩ u2).setCell ⟨g, 3, none⟩ u3) row :=
  grown_set (grown_set (grown_set (grown_set h hg _ _) hg _ _) hg _ _) hg _ _
theorem sPost_error {w0 w w' : World} {bv lv : Value} {place a1 a2 p : Int} {ok : Nat → Prop} {xs : List (S52 × Value)} {res : Except (Int × Int) (List S52 × Nat)} {ex : Ending} {A : Option Addr} {n c : Nat} (h : res = .error (a1, a2)) (h1 : ex = .returned (.tuple #[.agg #[bv, .slice A n c, .int .i64 a1, .int .i64 a2], .int .i64 p])) (h2 : w.grownBy w' lv.ownBlock) : SPost w0 w bv place ok lv xs res ex w' := by
  subst h
  exact ⟨h2, A, n, c, p, h1⟩
theorem sPost_ok {w0 w w' : World} {bv lv : Value} {place : Int} {ok : Nat → Prop} {xs : List (S52 × Value)} {res : Except (Int × Int) (List S52 × Nat)} {ex : Ending} {l : List S52} {nx : Nat} {A : Option Addr} {c : Nat} (h : res = .ok (l, nx)) (ys : List (S52 × Value)) (h1 : ex = .returned (.tuple #[.agg #[bv, .slice A (xs ++ ys).length c, .int .i64 0, .int .i64 place], .int .i64 (nx : Int)])) (h2 : ys.map (·.1) = l)
    (h4 : kB.R 52 w' w0.heap.size ok (.slice A (xs ++ ys).length c) (xs ++ ys)) (h5 : (blocks (xs ++ ys)).Nodup) (h6 : w.grownBy w' lv.ownBlock) (h7 : ∀ k, k < w.heap.size → (Value.slice A (xs ++ ys).length c).ownBlock = some k → lv.ownBlock = some k) : SPost w0 w bv place ok lv xs res ex w' := by
  subst h
  exact ⟨h6, A, c, ys, h1, h2, h4, h5, h7⟩
theorem grown_drewN {a b : World} {row : Option Nat} (h : a.grownBy b row) (n : Nat) : a.grownBy (b.drewN n) row := ⟨h.os, h.tape, h.output, h.size, h.block⟩
theorem grown_then {a b c : World} {row row2 : Option Nat} (h : a.grownBy b row) (h2 : b.grownBy c row2) (hr : ∀ k, k < a.heap.size → row2 = some k → row = some k) : a.grownBy c row :=
  ⟨h2.os.trans h.os, h2.tape.trans h.tape, h2.output.trans h.output, Nat.le_trans h.size h2.size, fun k hk hn => (h2.block k (Nat.lt_of_lt_of_le hk h.size) (fun e => hn (hr k hk e.symm).symm)).trans (h.block k hk hn)⟩
theorem below_grown' {w0 b c : World} {row : Option Nat} (h : Below w0.heap.size w0 b) (h2 : b.grownBy c row) (hr : ∀ k, row = some k → w0.heap.size ≤ k) : Below w0.heap.size w0 c := pw_below_grown h row h.size h2 hr
theorem l1Bytes_calls (A : Option Addr) (c : Nat) (xs : List Int) (w : World) (hC : (Kd.int .u8).C w A xs.length xs) (hc : xs.length ≤ c) (hl : xs.length ≤ 1048576) :
    Calls Try.prog 63 #[.slice A xs.length c] w fun e w' => ∃ (A' : Option Addr) (c' : Nat), e = .returned (.slice A' xs.length c') ∧ (Kd.int .u8).R 5 w' w.heap.size (fun _ => True) (.slice A' xs.length c') xs ∧ Below w.heap.size w w' := by
  have h1 : spec_l1Bytes.f xs = some xs := by
    unfold spec_l1Bytes.f
    show (if 0 + xs.length < 140737488355328 then some ([] ++ xs) else none) = _
    rw [if_pos (by omega)]
    rfl
  refine (spec_l1Bytes.calls A c xs xs w hC hc h1).mono ?_
  rintro e w' ⟨v, rfl, ho, hb⟩
  obtain ⟨A', c', rfl⟩ := Kd.R_slice ho
  exact ⟨A', c', rfl, ho, hb⟩
theorem grown_one (w : World) (g o : Nat) (v : Value) : w.grownBy (w.setCell ⟨g, o, none⟩ v) (some g) := ⟨rfl, rfl, rfl, by simp [World.setCell], fun k hk hn => heap_other _ _ _ _ _ (fun e => hn (by rw [e]))⟩
set_option maxHeartbeats 8000000 in
set_option maxRecDepth 100000 in
theorem l7Read_try (b : List Int) (ad : Addr) (c0 : Nat) (w0 : World) (hr0 : Kd.C (Kd.int .u8) w0 (some ad) b.length b) (hc0 : b.length ≤ c0) (hb : ∀ x ∈ b, 0 ≤ x ∧ x ≤ 255) (hl : b.length ≤ 4000)
    (g : Nat) (ih : ∀ g', g = g' + 1 → SSpec b ad c0 w0 g') (i e : Nat) (w : World) (Al : Option Addr) (cl : Nat) (place : Int) (ok : Nat → Prop) (xs : List (S52 × Value)) (hg : g ≤ 13) (he : e ≤ b.length) (hi : i ≤ 4000) (hB : Below w0.heap.size w0 w) (hok : ∀ k, w.heap.size ≤ k → ok k)
    (hrow : kB.R 52 w w0.heap.size ok (.slice Al xs.length cl) xs) (hnd : (blocks xs).Nodup) (hxl : xs.length + (e - i) ≤ 5000) :
    Calls Try.prog 52 #[.agg #[.slice (some ad) b.length c0, .slice Al xs.length cl, .int .i64 0, .int .i64 place], .int .i64 (i : Int), .int .i64 (e : Int), .int .i64 (13 - (g : Int))] w (SPost w0 w (.slice (some ad) b.length c0) place ok (.slice Al xs.length cl) xs (rdItem b g e i)) := by
  have hu := Try.underlying68
  have HB := Aside0.mk hB
  have HOK := Aside0.mk hok
  have HROW := Aside0.mk hrow
  have HND := Aside0.mk hnd
  have HBY := Aside0.mk hb
  have HR0 := Aside0.mk hr0
  have H8 : Aside0 (∀ j, 0 ≤ at8 b j ∧ at8 b j ≤ 255) := ⟨by
    intro j
    unfold at8 rd
    rw [Int.toNat_natCast, List.getD_eq_getElem?_getD]
    cases hj : b[j]? with
    | none => simp
    | some x => exact hb x (List.mem_of_getElem? hj)⟩
  have HCELL : Aside0 (∀ (j : Nat), j < b.length → ∀ W : World, Below w0.heap.size w0 W → W.cell? (ad.add j) = some (.int .u8 (at8 b j))) := ⟨by
    intro j hj W hW
    obtain ⟨ad', e1, h⟩ := Kd.at_int hr0 (j : Int) (by omega) (by omega)
    obtain rfl : ad = ad' := Option.some.inj e1
    exact pw_cell_below hW h⟩
  clear hB hrow hnd hb hr0 hok
  have p0 : (0 : Int) ≤ (i : Int) := by omega
  go_enter Try.func52, Try.ntmps52
  go_upto_region 1 with (fail)
  have BW : Aside0 (Below w0.heap.size w0 ((w.alloc (.cells #[.slice (some ad) b.length c0, .slice Al xs.length cl, .int .i64 0, .int .i64 place] 68)).alloc (.cells #[.slice none 0 0, .slice none 0 0, .int .i64 0, .int .i64 0] 68))) := ⟨below_alloc (below_alloc HB.out _) _⟩
  have GW : Aside0 (w.grownBy ((w.alloc (.cells #[.slice (some ad) b.length c0, .slice Al xs.length cl, .int .i64 0, .int .i64 place] 68)).alloc (.cells #[.slice none 0 0, .slice none 0 0, .int .i64 0, .int .i64 0] 68)) (Value.slice Al xs.length cl).ownBlock) := ⟨grown_of_below (below_alloc (below_alloc (Below.refl _ _) _) _) _⟩
  have B4 : Aside0 (((w.alloc (.cells #[.slice (some ad) b.length c0, .slice Al xs.length cl, .int .i64 0, .int .i64 place] 68)).alloc (.cells #[.slice none 0 0, .slice none 0 0, .int .i64 0, .int .i64 0] 68)).heap[w.heap.size]? = some (.cells #[.slice (some ad) b.length c0, .slice Al xs.length cl, .int .i64 0, .int .i64 place] 68 (0, 0))) := ⟨blk_al _ (blk_al_new _ _)⟩
  have B8 : Aside0 (((w.alloc (.cells #[.slice (some ad) b.length c0, .slice Al xs.length cl, .int .i64 0, .int .i64 place] 68)).alloc (.cells #[.slice none 0 0, .slice none 0 0, .int .i64 0, .int .i64 0] 68)).heap[w.heap.size + 1]? = some (.cells #[.slice none 0 0, .slice none 0 0, .int .i64 0, .int .i64 0] 68 (0, 0))) := ⟨by
    have := blk_al_new (w.alloc (.cells #[.slice (some ad) b.length c0, .slice Al xs.length cl, .int .i64 0, .int .i64 place] 68)) (.cells #[.slice none 0 0, .slice none 0 0, .int .i64 0, .int .i64 0] 68)
    rw [size_al] at this
    exact this⟩
  have RW := Aside0.mk (Kd.R_alloc (Kd.R_alloc HROW.out (.cells #[.slice (some ad) b.length c0, .slice Al xs.length cl, .int .i64 0, .int .i64 place] 68)) (.cells #[.slice none 0 0, .slice none 0 0, .int .i64 0, .int .i64 0] 68))
  have RWB : Aside0 (∀ k, k < w.heap.size → ((w.alloc (.cells #[.slice (some ad) b.length c0, .slice Al xs.length cl, .int .i64 0, .int .i64 place] 68)).alloc (.cells #[.slice none 0 0, .slice none 0 0, .int .i64 0, .int .i64 0] 68)).heap[k]? = w.heap[k]?) := ⟨fun k hk => (below_alloc (below_alloc (Below.refl _ _) _) _).block k hk⟩
  generalize ((w.alloc (.cells #[.slice (some ad) b.length c0, .slice Al xs.length cl, .int .i64 0, .int .i64 place] 68)).alloc (.cells #[.slice none 0 0, .slice none 0 0, .int .i64 0, .int .i64 0] 68)) = W1 at BW GW B4 B8 RW RWB ⊢
  have z0 : W1.cell? ⟨w.heap.size, 0, none⟩ = some (.slice (some ad) b.length c0) := cell_at B4.out 0
  have z1 : W1.cell? ⟨w.heap.size, 1, none⟩ = some (.slice Al xs.length cl) := cell_at B4.out 1
  have z2 : W1.cell? ⟨w.heap.size, 2, none⟩ = some (.int .i64 0) := cell_at B4.out 2
  have z3 : W1.cell? ⟨w.heap.size, 3, none⟩ = some (.int .i64 place) := cell_at B4.out 3
  by_cases c1 : e ≤ i
  · have HE : Aside0 (rdItem b g e i = .error (2, (i : Int))) := ⟨rdItem_error (by unfold head; rw [if_pos c1])⟩
    go_wp2_with fail
    refine (l7Fail_calls (some ad) Al b.length xs.length c0 cl 0 place (2) ((i : Int)) W1).mono ?_
    rintro ex w1 ⟨rfl, hb⟩
    have k8 := (hb.block _ (Array.getElem?_eq_some_iff.1 B8.out).1).trans B8.out
    obtain ⟨⟨x0, y0, x1, y1, x2, y2, x3, y3⟩, hk⟩ := four_set k8 (.slice (some ad) b.length c0) (.slice Al xs.length cl) (.int .i64 (2)) (.int .i64 ((i : Int)))
    have HK := Aside0.mk hk
    have HGR := Aside0.mk (grown_set4 (grown_trans GW.out hb) (Nat.le_succ w.heap.size) (.slice (some ad) b.length c0) (.slice Al xs.length cl) (.int .i64 (2)) (.int .i64 ((i : Int))))
    clear hk k8 hb
    go_wp2
    refine bodyPost_ret (results_ct rfl _ _ (w.heap.size + 1) 68 #[.slice (some ad) b.length c0, .slice Al xs.length cl, .int .i64 (2), .int .i64 ((i : Int))] (0, 0) _ rfl HK.out Try.underlying68 rfl (by kernel_rfl)) rfl ?_
    exact sPost_error HE.out rfl HGR.out
  have hx0 := HCELL.out i (by omega) W1 BW.out
  have hr0 := H8.out i
  by_cases c2 : at8 b i % 32 = 31
  · have HH0 : Aside0 (head b i e g = .error (3, (i : Int))) := ⟨by unfold head; rw [if_neg c1, if_pos c2]⟩
    generalize at8 b i = x0' at *
    have HE : Aside0 (rdItem b g e i = .error (3, (i : Int))) := ⟨rdItem_error (by exact HH0.out)⟩
    go_wp2_with fail
    refine (l7Fail_calls (some ad) Al b.length xs.length c0 cl 0 place (3) ((i : Int)) W1).mono ?_
    rintro ex w1 ⟨rfl, hb⟩
    have k8 := (hb.block _ (Array.getElem?_eq_some_iff.1 B8.out).1).trans B8.out
    obtain ⟨⟨x0, y0, x1, y1, x2, y2, x3, y3⟩, hk⟩ := four_set k8 (.slice (some ad) b.length c0) (.slice Al xs.length cl) (.int .i64 (3)) (.int .i64 ((i : Int)))
    have HK := Aside0.mk hk
    have HGR := Aside0.mk (grown_set4 (grown_trans GW.out hb) (Nat.le_succ w.heap.size) (.slice (some ad) b.length c0) (.slice Al xs.length cl) (.int .i64 (3)) (.int .i64 ((i : Int))))
    clear hk k8 hb
    go_wp2
    refine bodyPost_ret (results_ct rfl _ _ (w.heap.size + 1) 68 #[.slice (some ad) b.length c0, .slice Al xs.length cl, .int .i64 (3), .int .i64 ((i : Int))] (0, 0) _ rfl HK.out Try.underlying68 rfl (by kernel_rfl)) rfl ?_
    exact sPost_error HE.out rfl HGR.out
  by_cases c3 : g = 0
  · have HH0 : Aside0 (head b i e g = .error (6, (i : Int))) := ⟨by unfold head; rw [if_neg c1, if_neg c2, if_pos c3]⟩
    generalize at8 b i = x0' at *
    have HE : Aside0 (rdItem b g e i = .error (6, (i : Int))) := ⟨rdItem_error (by exact HH0.out)⟩
    go_wp2_with fail
    refine (l7Fail_calls (some ad) Al b.length xs.length c0 cl 0 place (6) ((i : Int)) W1).mono ?_
    rintro ex w1 ⟨rfl, hb⟩
    have k8 := (hb.block _ (Array.getElem?_eq_some_iff.1 B8.out).1).trans B8.out
    obtain ⟨⟨x0, y0, x1, y1, x2, y2, x3, y3⟩, hk⟩ := four_set k8 (.slice (some ad) b.length c0) (.slice Al xs.length cl) (.int .i64 (6)) (.int .i64 ((i : Int)))
    have HK := Aside0.mk hk
    have HGR := Aside0.mk (grown_set4 (grown_trans GW.out hb) (Nat.le_succ w.heap.size) (.slice (some ad) b.length c0) (.slice Al xs.length cl) (.int .i64 (6)) (.int .i64 ((i : Int))))
    clear hk k8 hb
    go_wp2
    refine bodyPost_ret (results_ct rfl _ _ (w.heap.size + 1) 68 #[.slice (some ad) b.length c0, .slice Al xs.length cl, .int .i64 (6), .int .i64 ((i : Int))] (0, 0) _ rfl HK.out Try.underlying68 rfl (by kernel_rfl)) rfl ?_
    exact sPost_error HE.out rfl HGR.out
  obtain ⟨n, f, c, hsz, hcs⟩ := l7Size_eq b H8.out i e g he hl c1 c2 c3
  have HSZ := Aside0.mk hsz
  generalize hx0e : at8 b i = x0' at *
  clear hsz hx0e
  have p1 : (0 : Int) ≤ (i : Int) + 1 := by omega
  go_upto_region 9 with (first | (go_at_call 66; refine (spec_l7Size.calls 9 (some ad) c0 b ((i : Int) + 1) (e : Int) n f c W1 (Kd.C_below HR0.out BW.out) hc0 HSZ.out).mono ?_; rintro ex w' ⟨rfl, ⟨nd, rfl⟩⟩))
  have RW2 : Aside0 (kB.R 52 (W1.drewN nd) w0.heap.size (fun k => ok k ∧ k ≠ w.heap.size ∧ k ≠ w.heap.size + 1) (.slice Al xs.length cl) xs) := ⟨Kd.R_drewN (Kd.R_step (Kd.R_mono (Kd.R_bound HROW.out) (fun k hk => ⟨hk.1, by have := hk.2.2.1; omega, by have := hk.2.2.1; omega⟩)) (fun k _ hlt => by
    by_cases e1 : some k = (Value.slice Al xs.length cl).ownBlock
    · exact RWB.out k hlt
    · exact GW.out.block k hlt e1)) nd⟩
  have BW2 := Aside0.mk (pw_below_drewN BW.out nd)
  have GW2 := Aside0.mk (grown_drewN GW.out nd)
  have B42 : Aside0 ((W1.drewN nd).heap[w.heap.size]? = _) := B4
  have B82 : Aside0 ((W1.drewN nd).heap[w.heap.size + 1]? = _) := B8
  generalize W1.drewN nd = W2 at RW2 BW2 GW2 B42 B82 ⊢
  clear z0 z1 z2 z3 RW BW GW B4 B8 hx0
  have z0 : W2.cell? ⟨w.heap.size, 0, none⟩ = some (.slice (some ad) b.length c0) := cell_at B42.out 0
  have z1 : W2.cell? ⟨w.heap.size, 1, none⟩ = some (.slice Al xs.length cl) := cell_at B42.out 1
  have z2 : W2.cell? ⟨w.heap.size, 2, none⟩ = some (.int .i64 0) := cell_at B42.out 2
  have z3 : W2.cell? ⟨w.heap.size, 3, none⟩ = some (.int .i64 place) := cell_at B42.out 3
  rcases hcs with ⟨rfl, hh⟩ | ⟨rfl, hh⟩ | ⟨rfl, f', rfl, hh, hn0, hn1, hf1, hf2⟩
  · have HH0 := Aside0.mk hh
    clear hh
    have HE : Aside0 (rdItem b g e i = .error (2, (i : Int))) := ⟨rdItem_error (by exact HH0.out)⟩
    go_wp2_with fail
    refine (l7Fail_calls (some ad) Al b.length xs.length c0 cl 0 place (2) ((i : Int)) W2).mono ?_
    rintro ex w1 ⟨rfl, hb⟩
    have k8 := (hb.block _ (Array.getElem?_eq_some_iff.1 B82.out).1).trans B82.out
    obtain ⟨⟨x0, y0, x1, y1, x2, y2, x3, y3⟩, hk⟩ := four_set k8 (.slice (some ad) b.length c0) (.slice Al xs.length cl) (.int .i64 (2)) (.int .i64 ((i : Int)))
    have HK := Aside0.mk hk
    have HGR := Aside0.mk (grown_set4 (grown_trans GW2.out hb) (Nat.le_succ w.heap.size) (.slice (some ad) b.length c0) (.slice Al xs.length cl) (.int .i64 (2)) (.int .i64 ((i : Int))))
    clear hk k8 hb
    go_wp2
    refine bodyPost_ret (results_ct rfl _ _ (w.heap.size + 1) 68 #[.slice (some ad) b.length c0, .slice Al xs.length cl, .int .i64 (2), .int .i64 ((i : Int))] (0, 0) _ rfl HK.out Try.underlying68 rfl (by kernel_rfl)) rfl ?_
    exact sPost_error HE.out rfl HGR.out
  · have HH0 := Aside0.mk hh
    clear hh
    have HE : Aside0 (rdItem b g e i = .error (4, (i : Int) + 1)) := ⟨rdItem_error (by exact HH0.out)⟩
    go_wp2_with fail
    refine (l7Fail_calls (some ad) Al b.length xs.length c0 cl 0 place (4) ((i : Int) + 1) W2).mono ?_
    rintro ex w1 ⟨rfl, hb⟩
    have k8 := (hb.block _ (Array.getElem?_eq_some_iff.1 B82.out).1).trans B82.out
    obtain ⟨⟨x0, y0, x1, y1, x2, y2, x3, y3⟩, hk⟩ := four_set k8 (.slice (some ad) b.length c0) (.slice Al xs.length cl) (.int .i64 (4)) (.int .i64 ((i : Int) + 1))
    have HK := Aside0.mk hk
    have HGR := Aside0.mk (grown_set4 (grown_trans GW2.out hb) (Nat.le_succ w.heap.size) (.slice (some ad) b.length c0) (.slice Al xs.length cl) (.int .i64 (4)) (.int .i64 ((i : Int) + 1)))
    clear hk k8 hb
    go_wp2
    refine bodyPost_ret (results_ct rfl _ _ (w.heap.size + 1) 68 #[.slice (some ad) b.length c0, .slice Al xs.length cl, .int .i64 (4), .int .i64 ((i : Int) + 1)] (0, 0) _ rfl HK.out Try.underlying68 rfl (by kernel_rfl)) rfl ?_
    exact sPost_error HE.out rfl HGR.out
  have HF := Aside0.mk hh
  clear hh
  by_cases c11 : (e : Int) < (f' : Int) + n
  · have HE : Aside0 (rdItem b g e i = .error (2, (i : Int))) := ⟨rdItem_error (by rw [HF.out]; unfold headFin; rw [if_pos c11])⟩
    go_wp2_with fail
    refine (l7Fail_calls (some ad) Al b.length xs.length c0 cl 0 place (2) ((i : Int)) W2).mono ?_
    rintro ex w1 ⟨rfl, hb⟩
    have k8 := (hb.block _ (Array.getElem?_eq_some_iff.1 B82.out).1).trans B82.out
    obtain ⟨⟨x0, y0, x1, y1, x2, y2, x3, y3⟩, hk⟩ := four_set k8 (.slice (some ad) b.length c0) (.slice Al xs.length cl) (.int .i64 (2)) (.int .i64 ((i : Int)))
    have HK := Aside0.mk hk
    have HGR := Aside0.mk (grown_set4 (grown_trans GW2.out hb) (Nat.le_succ w.heap.size) (.slice (some ad) b.length c0) (.slice Al xs.length cl) (.int .i64 (2)) (.int .i64 ((i : Int))))
    clear hk k8 hb
    go_wp2
    refine bodyPost_ret (results_ct rfl _ _ (w.heap.size + 1) 68 #[.slice (some ad) b.length c0, .slice Al xs.length cl, .int .i64 (2), .int .i64 ((i : Int))] (0, 0) _ rfl HK.out Try.underlying68 rfl (by kernel_rfl)) rfl ?_
    exact sPost_error HE.out rfl HGR.out
  obtain ⟨s, rfl⟩ := Int.eq_ofNat_of_zero_le hn0
  have HF2 : Aside0 (head b i e g = .ok (x0', f', s)) := ⟨by rw [HF.out]; unfold headFin; rw [if_neg c11]; rfl⟩
  clear HF
  have hmd := madeT_spec x0' hr0.1 hr0.2
  have HMD := Aside0.mk hmd
  clear hmd
  have hl4 : w.heap.size < W2.heap.size ∧ w.heap.size + 1 < W2.heap.size := ⟨(Array.getElem?_eq_some_iff.1 B42.out).1, (Array.getElem?_eq_some_iff.1 B82.out).1⟩
  have HL4 := Aside0.mk hl4
  clear hl4
  go_upto_region 17 with (first | (at_builtin; refine Kd.R_append kB (w0 := w0) w0.heap.size rfl (.tmp 80) (.tmp 83) 25 52 (.agg #[(.int .i64 0), (.slice none 0 0), (.int .i64 0)]) 40 rfl Try.underlying25 info52' rfl (by decide) (by omega) (.slice Al xs.length cl) xs (⟨x0', [], 0⟩, .slice none 0 0) [.int .i64 x0', .slice none 0 0, .int .i64 0] (fun k => ok k ∧ k ≠ w.heap.size ∧ k ≠ w.heap.size + 1) (fun _ => False) rfl rfl ?aP (fun _ hk => hk.elim) ?aF RW2.out BW2.out BW2.out.size ?aL ?_; (case aP => exact ⟨k52_mkM _ _ _ ⟨x0', [], 0⟩ (v1 := .slice none 0 0) (Kd.R_nil _ _ _ _ _), rfl⟩); (case aF => exact (fun k hk => by have h1 := HL4.out; have h2 := GW2.out.size; exact ⟨HOK.out k (by omega), by omega, by omega⟩)); (case aL => omega); intro v5 w5 ho hb hg hat; obtain ⟨A5, c5, rfl⟩ := Kd.R_slice ho; rw [List.length_append, List.length_singleton] at ho hat; have HOWN : Aside0 (∀ k, k < w.heap.size → (Value.slice A5 (xs.length + 1) c5).ownBlock = some k → (Value.slice Al xs.length cl).ownBlock = some k) := ⟨fun k hk e => (by rcases hat with h | ⟨b2, h, h2⟩; exact h ▸ e; have h3 := GW2.out.size; rw [h] at e; have := Option.some.inj e; omega)⟩; have j4 := (hg.block _ HL4.out.1 (fun e => (RW2.out.1 _ e.symm).2.1 rfl)).trans B42.out; have j8 := (hg.block _ HL4.out.2 (fun e => (RW2.out.1 _ e.symm).2.2 rfl)).trans B82.out; have x5 : w5.cell? ⟨w.heap.size, 1, none⟩ = some (.slice Al xs.length cl) := cell_at j4 1; have y5 := free_at j4 1; have J4 := Aside0.mk j4; have J8 := Aside0.mk j8; have HO5 := Aside0.mk ho; have HB5 := Aside0.mk hb; have HG5 := Aside0.mk (grown_then GW2.out hg (fun k _ e => e)); clear ho hb hg hat j4 j8))
  have HO6 : Aside0 (kB.R 52 (w5.setCell ⟨w.heap.size, 1, none⟩ (.slice A5 (xs.length + 1) c5)) w0.heap.size (fun k => ok k ∧ k ≠ w.heap.size ∧ k ≠ w.heap.size + 1) (.slice A5 (xs.length + 1) c5) (xs ++ [(⟨x0', [], 0⟩, .slice none 0 0)])) := ⟨Kd.R_far HO5.out (fun k hk => hk.2.1) _⟩
  have B46 : Aside0 ((w5.setCell ⟨w.heap.size, 1, none⟩ (.slice A5 (xs.length + 1) c5)).heap[w.heap.size]? = some (.cells #[.slice (some ad) b.length c0, .slice A5 (xs.length + 1) c5, .int .i64 0, .int .i64 place] 68 (0, 0))) := ⟨heap_set J4.out 1 _⟩
  have B86 : Aside0 ((w5.setCell ⟨w.heap.size, 1, none⟩ (.slice A5 (xs.length + 1) c5)).heap[w.heap.size + 1]? = some (.cells #[.slice none 0 0, .slice none 0 0, .int .i64 0, .int .i64 0] 68 (0, 0))) := ⟨(heap_other _ _ _ _ _ (by omega)).trans J8.out⟩
  have HB6 : Aside0 (Below w0.heap.size w0 (w5.setCell ⟨w.heap.size, 1, none⟩ (.slice A5 (xs.length + 1) c5))) := ⟨below_set HB5.out HB.out.size⟩
  have GW6 : Aside0 (w.grownBy (w5.setCell ⟨w.heap.size, 1, none⟩ (.slice A5 (xs.length + 1) c5)) (Value.slice Al xs.length cl).ownBlock) := ⟨grown_set HG5.out (Nat.le_refl _) _ _⟩
  generalize w5.setCell ⟨w.heap.size, 1, none⟩ (.slice A5 (xs.length + 1) c5) = W6 at HO6 B46 B86 HB6 GW6 ⊢
  clear x5 y5 z0 z1 z2 z3 HO5 HB5 HG5 J4 J8 RW2 BW2 GW2 B42 B82
  by_cases c12 : madeT x0' = true
  · rw [c12] at HMD
    obtain ⟨g', hg'⟩ : ∃ g', g = g' + 1 := ⟨g - 1, by omega⟩
    have IH := Aside0.mk (ih g' hg')
    have HG' := Aside0.mk hg'
    have hE : Aside0 (∀ res, rdKids (rdItem b g' (f' + s)) (f' + s) s f' = res → rdItem b g e i = (match res with | .error x => .error x | .ok (l, c) => .ok (⟨x0', [], (c : Int)⟩ :: l, f' + s))) := ⟨by
      intro res hres
      subst hg'
      unfold rdItem
      rw [HF2.out]
      show (if madeT x0' = true then _ else _) = _
      rw [if_pos c12, hres]
      cases res <;> rfl⟩
    clear hg'
    have hpf : (0 : Int) ≤ (f' : Int) := by omega
    go_wp2_with (first | (go_at_call 38; refine (spec_l7Made.calls x0' true W6 HMD.out).mono ?_; rintro ex w' ⟨rfl, ⟨nd, rfl⟩⟩))
    have HO7 := Aside0.mk (Kd.R_drewN HO6.out nd)
    have B47 : Aside0 ((W6.drewN nd).heap[w.heap.size]? = _) := B46
    have B87 : Aside0 ((W6.drewN nd).heap[w.heap.size + 1]? = _) := B86
    have HB7 := Aside0.mk (pw_below_drewN HB6.out nd)
    have GW7 := Aside0.mk (grown_drewN GW6.out nd)
    generalize W6.drewN nd = W7 at HO7 B47 B87 HB7 GW7 ⊢
    clear HO6 B46 B86 HB6 GW6
    go_loopg [15] s (fun gk v15 wr => ∃ (n c : Nat) (A : Option Addr) (c6 : Nat) (ys : List (S52 × Value)) (N : Nat), v15 = .int .i64 (n : Int) ∧ n ≤ f' + s ∧ f' + c ≤ n ∧ f' + ys.length ≤ n ∧ f' + s ≤ n + gk ∧ N = xs.length + 1 + ys.length ∧ Aside0 (rdKids (rdItem b g' (f' + s)) (f' + s) s f' = addK (ys.map (·.1)) c (rdKids (rdItem b g' (f' + s)) (f' + s) gk n)) ∧
      Aside0 (wr.heap[w.heap.size]? = some (.cells #[.slice (some ad) b.length c0, .slice A N c6, .int .i64 0, .int .i64 place] 68 (0, 0))) ∧ Aside0 (wr.heap[w.heap.size + 1]? = some (.cells #[.slice none 0 0, .slice none 0 0, .int .i64 0, .int .i64 0] 68 (0, 0))) ∧ Aside0 (kB.R 52 wr w0.heap.size (fun k => ok k ∧ k ≠ w.heap.size ∧ k ≠ w.heap.size + 1) (.slice A N c6) (xs ++ ((⟨x0', [], (c : Int)⟩ : S52), Value.slice none 0 0) :: ys)) ∧
      Aside0 (blocks (xs ++ ((⟨x0', [], (c : Int)⟩ : S52), Value.slice none 0 0) :: ys)).Nodup ∧ Aside0 (Below w0.heap.size w0 wr) ∧ Aside0 (w.grownBy wr (Value.slice Al xs.length cl).ownBlock) ∧ Aside0 (∀ k, k < w.heap.size → (Value.slice A N c6).ownBlock = some k → (Value.slice Al xs.length cl).ownBlock = some k))
    case atStart =>
      refine ⟨f', 0, A5, c5, [], xs.length + 1, rfl, by omega, by omega, by simp, by omega, by simp, ⟨?_⟩, B47, B87, HO7, ⟨?_⟩, HB7, GW7, HOWN⟩
      · cases rdKids (rdItem b g' (f' + s)) (f' + s) s f' with
        | error x => rfl
        | ok y => simp [addK]
      · have e : blocks (xs ++ [((⟨x0', [], ((0 : Nat) : Int)⟩ : S52), Value.slice none 0 0)]) = blocks xs := by
          rw [blocks_append]
          simp [blocks, Value.ownBlock]
        rw [e]
        exact HND.out
    case round =>
      obtain ⟨n, c, A, c6, ys, N, rfl, hn1, hn2, hn3, hn4, hN, HK, HB4r, HB8r, HOr, HNr, HBr, HGr, HWr⟩ := hrel
      have HNN : Aside0 ((xs ++ ((⟨x0', [], (c : Int)⟩ : S52), Value.slice none 0 0) :: ys).length = N) := ⟨by rw [hN, List.length_append, List.length_cons]; omega⟩
      have HNL := Aside0.mk hN
      clear hN
      have hl4 := (Array.getElem?_eq_some_iff.1 HB4r.out).1
      have hl8 := (Array.getElem?_eq_some_iff.1 HB8r.out).1
      have r0 : wr.cell? ⟨w.heap.size, 0, none⟩ = some (.slice (some ad) b.length c0) := cell_at HB4r.out 0
      have r1 : wr.cell? ⟨w.heap.size, 1, none⟩ = some (.slice A N c6) := cell_at HB4r.out 1
      have r2 : wr.cell? ⟨w.heap.size, 2, none⟩ = some (.int .i64 0) := cell_at HB4r.out 2
      have r3 : wr.cell? ⟨w.heap.size, 3, none⟩ = some (.int .i64 place) := cell_at HB4r.out 3
      by_cases hlt : (n : Int) < (f' : Int) + (s : Int)
      · obtain ⟨gk, rfl⟩ : ∃ q, gk = q + 1 := ⟨gk - 1, by omega⟩
        have hcall := IH.out n (f' + s) wr A c6 place (fun k => ok k ∧ k ≠ w.heap.size ∧ k ≠ w.heap.size + 1) (xs ++ ((⟨x0', [], (c : Int)⟩ : S52), Value.slice none 0 0) :: ys) (by omega) (by omega) HBr.out (fun k hk => by have h1 := HGr.out.size; exact ⟨HOK.out k (by omega), by omega, by omega⟩) (by rw [HNN.out]; exact HOr.out) HNr.out (by rw [HNN.out, HNL.out]; omega)
        rw [show (13 : Int) - (g' : Int) = 13 - (g : Int) + 1 by rw [HG'.out]; omega, Int.natCast_add, HNN.out] at hcall
        have hn4b : some w.heap.size ≠ (Value.slice A N c6).ownBlock := fun e => (HOr.out.1 _ e.symm).2.1 rfl
        have hn8b : some (w.heap.size + 1) ≠ (Value.slice A N c6).ownBlock := fun e => (HOr.out.1 _ e.symm).2.2 rfl
        cases hx : rdItem b g' (f' + s) n with
        | error x =>
          rw [hx] at hcall
          have HCALL := Aside0.mk hcall
          have hcode := rdItem_code HBY.out g' (f' + s) n x hx
          have HE : Aside0 (rdItem b g e i = .error (x.1, x.2)) := ⟨by
            have h1 := hE.out _ HK.out
            rw [h1]
            unfold rdKids
            rw [if_pos (by omega), hx]
            rfl⟩
          clear hcall hx
          go_wp2_with fail
          refine HCALL.out.mono ?_
          rintro ex w1 ⟨hgr, Ae, ne, ce, p, rfl⟩
          have k4 := (hgr.block _ hl4 hn4b).trans HB4r.out
          have k8 := (hgr.block _ hl8 hn8b).trans HB8r.out
          obtain ⟨xc, xp⟩ := x
          simp only at hcode
          obtain ⟨⟨u0, y0, u1, y1, u2, y2, u3, y3⟩, hk⟩ := four_set k4 (.slice (some ad) b.length c0) (.slice Ae ne ce) (.int .i64 xc) (.int .i64 xp)
          have k8' := (((heap_other (((w1.setCell ⟨w.heap.size, 0, none⟩ (.slice (some ad) b.length c0)).setCell ⟨w.heap.size, 1, none⟩ (.slice Ae ne ce)).setCell ⟨w.heap.size, 2, none⟩ (.int .i64 xc)) w.heap.size 3 (.int .i64 xp) (w.heap.size + 1) (by omega)).trans (heap_other ((w1.setCell ⟨w.heap.size, 0, none⟩ (.slice (some ad) b.length c0)).setCell ⟨w.heap.size, 1, none⟩ (.slice Ae ne ce)) w.heap.size 2 (.int .i64 xc) (w.heap.size + 1) (by omega))).trans ((heap_other (w1.setCell ⟨w.heap.size, 0, none⟩ (.slice (some ad) b.length c0)) w.heap.size 1 (.slice Ae ne ce) (w.heap.size + 1) (by omega)).trans (heap_other w1 w.heap.size 0 (.slice (some ad) b.length c0) (w.heap.size + 1) (by omega)))).trans k8
          have HKA := Aside0.mk hk
          have HK8 := Aside0.mk k8'
          have HGA := Aside0.mk (grown_set4 (grown_then HGr.out hgr HWr.out) (Nat.le_refl w.heap.size) (.slice (some ad) b.length c0) (.slice Ae ne ce) (.int .i64 xc) (.int .i64 xp))
          clear hk k8' k4 k8 hgr r0 r1 r2 r3
          go_upto_region 23 with (fail)
          generalize (((w1.setCell ⟨w.heap.size, 0, none⟩ (.slice (some ad) b.length c0)).setCell ⟨w.heap.size, 1, none⟩ (.slice Ae ne ce)).setCell ⟨w.heap.size, 2, none⟩ (.int .i64 xc)).setCell ⟨w.heap.size, 3, none⟩ (.int .i64 xp) = W8 at HKA HK8 HGA ⊢
          clear u0 y0 u1 y1 u2 y2 u3 y3
          have r0 : W8.cell? ⟨w.heap.size, 0, none⟩ = some (.slice (some ad) b.length c0) := cell_at HKA.out 0
          have r1 : W8.cell? ⟨w.heap.size, 1, none⟩ = some (.slice Ae ne ce) := cell_at HKA.out 1
          have r2 : W8.cell? ⟨w.heap.size, 2, none⟩ = some (.int .i64 xc) := cell_at HKA.out 2
          have r3 : W8.cell? ⟨w.heap.size, 3, none⟩ = some (.int .i64 xp) := cell_at HKA.out 3
          obtain ⟨⟨u0, y0, u1, y1, u2, y2, u3, y3⟩, hk⟩ := four_set HK8.out (.slice (some ad) b.length c0) (.slice Ae ne ce) (.int .i64 xc) (.int .i64 xp)
          have HKB := Aside0.mk hk
          have HGB := Aside0.mk (grown_set4 HGA.out (Nat.le_succ w.heap.size) (.slice (some ad) b.length c0) (.slice Ae ne ce) (.int .i64 xc) (.int .i64 xp))
          clear hk
          go_wp2
          refine bodyPost_ret (results_ct rfl _ _ (w.heap.size + 1) 68 #[.slice (some ad) b.length c0, .slice Ae ne ce, .int .i64 xc, .int .i64 xp] (0, 0) _ rfl HKB.out Try.underlying68 rfl (by kernel_rfl)) rfl ?_
          exact sPost_error HE.out rfl HGB.out
        | ok y =>
          obtain ⟨l1, nx⟩ := y
          have hle := rdItem_ok HBY.out g' (f' + s) n l1 nx hx
          rw [hx] at hcall
          have HCALL := Aside0.mk hcall
          have HK2 : Aside0 (∀ q, addK (ys.map (·.1)) c (rdKids (rdItem b g' (f' + s)) (f' + s) (gk + 1) n) = q → addK (ys.map (·.1) ++ l1) (c + 1) (rdKids (rdItem b g' (f' + s)) (f' + s) gk nx) = q) := ⟨by
            intro q hq
            rw [← hq]
            conv => rhs; unfold rdKids
            rw [if_pos (by omega), hx]
            simp only
            cases rdKids (rdItem b g' (f' + s)) (f' + s) gk nx with
            | error x => rfl
            | ok z => simp [addK]; omega⟩
          clear hcall hx
          go_wp2_with fail
          refine HCALL.out.mono ?_
          rintro ex w1 ⟨hgr, A1, c1', zs, rfl, hz, h2, h3, h7⟩
          have hz : zs.map (·.1) = l1 := hz
          have hzl : zs.length = l1.length := by rw [← hz, List.length_map]
          obtain ⟨g5, cap5, cur5, hv5, hok5, hbg5, hg5, hn5, hcm5, hcs5, hx5⟩ := kB_raw h2 (by simp)
          obtain ⟨N1, hN1⟩ : ∃ N1, ((xs ++ ((⟨x0', [], (c : Int)⟩ : S52), Value.slice none 0 0) :: ys) ++ zs).length = N1 := ⟨_, rfl⟩
          have hNl1 : N1 = N + zs.length := by rw [← hN1, List.length_append, HNN.out]
          have hj5 : xs.length < ((xs ++ ((⟨x0', [], (c : Int)⟩ : S52), Value.slice none 0 0) :: ys) ++ zs).length := by rw [hN1, hNl1, HNL.out]; omega
          have hxl5 := hx5 xs.length hj5
          have eq5 : ((xs ++ ((⟨x0', [], (c : Int)⟩ : S52), Value.slice none 0 0) :: ys) ++ zs)[xs.length]'hj5 = (⟨x0', [], (c : Int)⟩, .slice none 0 0) := by simp
          rw [eq5] at hxl5
          rw [hv5, hN1] at h2
          rw [hN1] at hv5 ⊢
          have hv5' := hv5
          rw [hv5]
          have hne4 : w.heap.size ≠ g5 := fun e => hok5.2.1 e.symm
          have hne8 : w.heap.size + 1 ≠ g5 := fun e => hok5.2.2 e.symm
          have k4 := (hgr.block _ hl4 hn4b).trans HB4r.out
          have k8 := (hgr.block _ hl8 hn8b).trans HB8r.out
          obtain ⟨⟨u0, y0, u1, y1, u2, y2, u3, y3⟩, hk⟩ := four_set k4 (.slice (some ad) b.length c0) (.slice (some ⟨g5, 0, none⟩) N1 cap5) (.int .i64 0) (.int .i64 place)
          have hfar : ∀ q, q ≠ w.heap.size → ((((w1.setCell ⟨w.heap.size, 0, none⟩ (.slice (some ad) b.length c0)).setCell ⟨w.heap.size, 1, none⟩ (.slice (some ⟨g5, 0, none⟩) N1 cap5)).setCell ⟨w.heap.size, 2, none⟩ (.int .i64 0)).setCell ⟨w.heap.size, 3, none⟩ (.int .i64 place)).heap[q]? = w1.heap[q]? := fun q hq => ((heap_other _ _ _ _ _ hq).trans (heap_other _ _ _ _ _ hq)).trans ((heap_other _ _ _ _ _ hq).trans (heap_other _ _ _ _ _ hq))
          have HKA := Aside0.mk hk
          have HK8 := Aside0.mk ((hfar _ (by omega)).trans k8)
          have HKG := Aside0.mk ((hfar _ (fun e => hne4 e.symm)).trans hg5)
          have HGA := Aside0.mk (grown_set4 (grown_then HGr.out hgr HWr.out) (Nat.le_refl w.heap.size) (.slice (some ad) b.length c0) (.slice (some ⟨g5, 0, none⟩) N1 cap5) (.int .i64 0) (.int .i64 place))
          have HRA := Aside0.mk (Kd.R_far (Kd.R_far (Kd.R_far (Kd.R_far h2 (p := ⟨w.heap.size, 0, none⟩) (fun k hk => hk.2.1) (.slice (some ad) b.length c0)) (p := ⟨w.heap.size, 1, none⟩) (fun k hk => hk.2.1) (.slice (some ⟨g5, 0, none⟩) N1 cap5)) (p := ⟨w.heap.size, 2, none⟩) (fun k hk => hk.2.1) (.int .i64 0)) (p := ⟨w.heap.size, 3, none⟩) (fun k hk => hk.2.1) (.int .i64 place))
          have HBA : Aside0 (Below w0.heap.size w0 ((((w1.setCell ⟨w.heap.size, 0, none⟩ (.slice (some ad) b.length c0)).setCell ⟨w.heap.size, 1, none⟩ (.slice (some ⟨g5, 0, none⟩) N1 cap5)).setCell ⟨w.heap.size, 2, none⟩ (.int .i64 0)).setCell ⟨w.heap.size, 3, none⟩ (.int .i64 place))) := ⟨below_set (below_set (below_set (below_set (below_grown' HBr.out hgr (fun k e => Kd.R_base HOr.out k e)) HB.out.size) HB.out.size) HB.out.size) HB.out.size⟩
          have hown : ∀ k, k < w.heap.size → some g5 = some k → (Value.slice Al xs.length cl).ownBlock = some k := fun k hk e => HWr.out k hk (h7 k (Nat.lt_of_lt_of_le hk HGr.out.size) (by rw [hN1, hv5']; exact e))
          have HWA := Aside0.mk hown
          have HX2 := Aside0.mk hxl5.c2
          have HN1' := Aside0.mk hN1
          have HZ := Aside0.mk hz
          have HND9 : Aside0 (blocks (xs ++ ((⟨x0', [], ((c + 1 : Nat) : Int)⟩ : S52), Value.slice none 0 0) :: (ys ++ zs))).Nodup := ⟨by
            have e1 : blocks (xs ++ ((⟨x0', [], ((c + 1 : Nat) : Int)⟩ : S52), Value.slice none 0 0) :: (ys ++ zs)) = blocks ((xs ++ ((⟨x0', [], (c : Int)⟩ : S52), Value.slice none 0 0) :: ys) ++ zs) := by rw [List.append_assoc, blocks_append, blocks_append, List.cons_append, blocks_nil, blocks_nil]
            rw [e1]
            exact h3⟩
          have px : (0 : Int) ≤ (xs.length : Int) := by omega
          have px2 : (xs.length : Int) < (N1 : Int) := by have := HNL.out; omega
          have HZL := Aside0.mk hzl
          have HSETF : Aside0 (∀ W : World, kB.R 52 W w0.heap.size (fun k => ok k ∧ k ≠ w.heap.size ∧ k ≠ w.heap.size + 1) (.slice (some ⟨g5, 0, none⟩) N1 cap5) ((xs ++ ((⟨x0', [], (c : Int)⟩ : S52), Value.slice none 0 0) :: ys) ++ zs) → kB.R 52 (W.setCell ⟨g5, xs.length * 3 + 2, none⟩ (.int .i64 ((c : Int) + 1))) w0.heap.size (fun k => ok k ∧ k ≠ w.heap.size ∧ k ≠ w.heap.size + 1) (.slice (some ⟨g5, 0, none⟩) N1 cap5) (xs ++ ((⟨x0', [], ((c + 1 : Nat) : Int)⟩ : S52), Value.slice none 0 0) :: (ys ++ zs))) := ⟨fun W hW => by
            have hset := kB_set hW xs.length 2 (.int .i64 ((c : Int) + 1)) (⟨x0', [], ((c + 1 : Nat) : Int)⟩, .slice none 0 0) hj5 (by omega) (by rw [eq5]; rfl) (by rw [eq5]; rfl) (by simp) (Kd.R_nil _ _ _ _ _)
            have esl : (((xs ++ ((⟨x0', [], (c : Int)⟩ : S52), Value.slice none 0 0) :: ys) ++ zs).set xs.length (⟨x0', [], ((c + 1 : Nat) : Int)⟩, .slice none 0 0)) = xs ++ ((⟨x0', [], ((c + 1 : Nat) : Int)⟩ : S52), Value.slice none 0 0) :: (ys ++ zs) := by
              rw [List.append_assoc, List.set_append_right _ _ (Nat.le_refl _), Nat.sub_self]
              rfl
            rw [esl] at hset
            exact hset⟩
          have HNX := Aside0.mk hNl1
          have hccs := Aside0.mk hle
          clear hk k4 k8 hgr h2 h3 h7 hx5 hxl5 eq5 hv5 hv5' hg5 hcs5 hz hzl hN1 hNl1 hj5 hown hfar r0 r1 r2 r3 hok5
          go_upto_region 23 with (fail)
          generalize (((w1.setCell ⟨w.heap.size, 0, none⟩ (.slice (some ad) b.length c0)).setCell ⟨w.heap.size, 1, none⟩ (.slice (some ⟨g5, 0, none⟩) N1 cap5)).setCell ⟨w.heap.size, 2, none⟩ (.int .i64 0)).setCell ⟨w.heap.size, 3, none⟩ (.int .i64 place) = W8 at HKA HK8 HKG HGA HRA HBA ⊢
          clear u0 y0 u1 y1 u2 y2 u3 y3
          have r1 : W8.cell? ⟨w.heap.size, 1, none⟩ = some (.slice (some ⟨g5, 0, none⟩) N1 cap5) := cell_at HKA.out 1
          have r2 : W8.cell? ⟨w.heap.size, 2, none⟩ = some (.int .i64 0) := cell_at HKA.out 2
          have s2 : W8.cell? ⟨g5, xs.length * 3 + 2, none⟩ = some (.int .i64 (c : Int)) := (cell_at HKG.out _).trans HX2.out
          have s3 : W8.frozen? ⟨g5, xs.length * 3 + 2, none⟩ = false := free_at HKG.out _
          go_upto_region 25 with (fail)
          go_region
          have W9f : Aside0 (((W8.setCell ⟨g5, xs.length * 3 + 2, none⟩ (.int .i64 ((c : Int) + 1))).drew.heap[w.heap.size]? = some (.cells #[.slice (some ad) b.length c0, .slice (some ⟨g5, 0, none⟩) N1 cap5, .int .i64 0, .int .i64 place] 68 (0, 0))) ∧ ((W8.setCell ⟨g5, xs.length * 3 + 2, none⟩ (.int .i64 ((c : Int) + 1))).drew.heap[w.heap.size + 1]? = some (.cells #[.slice none 0 0, .slice none 0 0, .int .i64 0, .int .i64 0] 68 (0, 0)))) := ⟨(heap_other W8 g5 (xs.length * 3 + 2) (.int .i64 ((c : Int) + 1)) _ hne4).trans HKA.out, (heap_other W8 g5 (xs.length * 3 + 2) (.int .i64 ((c : Int) + 1)) _ hne8).trans HK8.out⟩
          have HR9 := Aside0.mk (Kd.R_drewN (HSETF.out W8 HRA.out) 1)
          have HB9 : Aside0 (Below w0.heap.size w0 (W8.setCell ⟨g5, xs.length * 3 + 2, none⟩ (.int .i64 ((c : Int) + 1))).drew) := ⟨below_drew (below_set HBA.out hbg5)⟩
          have HG9 : Aside0 (w.grownBy (W8.setCell ⟨g5, xs.length * 3 + 2, none⟩ (.int .i64 ((c : Int) + 1))).drew (Value.slice Al xs.length cl).ownBlock) := ⟨grown_drewN (grown_then HGA.out (grown_one W8 g5 _ _) (fun k hk e => HWA.out k hk e)) 1⟩
          go_wp2
          go_roundg gk
          case measure => have := hccs.out; omega
          case rel =>
            have h1 := hccs.out
            have h2 := HNL.out
            have h3 := HZL.out
            have h4 := HNX.out
            refine ⟨nx, c + 1, some ⟨g5, 0, none⟩, cap5, ys ++ zs, N1, rfl, by omega, by omega, by rw [List.length_append, h3]; omega, by omega, by rw [List.length_append]; omega, ⟨?_⟩, ⟨W9f.out.1⟩, ⟨W9f.out.2⟩, ⟨HR9.out⟩, HND9, HB9, HG9, ⟨fun k hk e => HWA.out k hk e⟩⟩
            rw [List.map_append, HZ.out, HK.out]
            exact (HK2.out _ rfl).symm
      · obtain rfl : n = f' + s := by omega
        have hend : rdKids (rdItem b g' (f' + s)) (f' + s) gk (f' + s) = .ok ([], 0) := by
          cases gk with
          | zero => rfl
          | succ q =>
            unfold rdKids
            rw [if_neg (by omega)]
        have HE : Aside0 (rdItem b g e i = .ok (⟨x0', [], (c : Int)⟩ :: ys.map (·.1), f' + s)) := ⟨by
          have h1 := hE.out _ HK.out
          rw [h1, hend]
          simp [addK]⟩
        obtain ⟨⟨u0, y0, u1, y1, u2, y2, u3, y3⟩, hk⟩ := four_set HB8r.out (.slice (some ad) b.length c0) (.slice A N c6) (.int .i64 0) (.int .i64 place)
        have HKB := Aside0.mk hk
        have HGB := Aside0.mk (grown_set4 HGr.out (Nat.le_succ w.heap.size) (.slice (some ad) b.length c0) (.slice A N c6) (.int .i64 0) (.int .i64 place))
        have HRF := Aside0.mk (Kd.R_far (Kd.R_far (Kd.R_far (Kd.R_far HOr.out (p := ⟨w.heap.size + 1, 0, none⟩) (fun k hk => hk.2.2) (.slice (some ad) b.length c0)) (p := ⟨w.heap.size + 1, 1, none⟩) (fun k hk => hk.2.2) (.slice A N c6)) (p := ⟨w.heap.size + 1, 2, none⟩) (fun k hk => hk.2.2) (.int .i64 0)) (p := ⟨w.heap.size + 1, 3, none⟩) (fun k hk => hk.2.2) (.int .i64 place))
        clear hk hend
        go_wp2
        refine bodyPost_ret (results_ct rfl _ _ (w.heap.size + 1) 68 #[.slice (some ad) b.length c0, .slice A N c6, .int .i64 0, .int .i64 place] (0, 0) _ rfl HKB.out Try.underlying68 rfl (by kernel_rfl)) rfl ?_
        exact sPost_ok HE.out (((⟨x0', [], (c : Int)⟩ : S52), Value.slice none 0 0) :: ys) (by rw [HNN.out, Int.natCast_add]; rfl) rfl (by rw [HNN.out]; exact Kd.R_mono HRF.out (fun _ hk => hk.1)) HNr.out HGB.out (by rw [HNN.out]; exact HWr.out)
  · replace c12 : madeT x0' = false := Bool.eq_false_iff.2 c12
    rw [c12] at HMD
    go_upto_region 18 with (first | (go_at_call 38; refine (spec_l7Made.calls x0' false W6 HMD.out).mono ?_; rintro ex w' ⟨rfl, ⟨nd, rfl⟩⟩))
    have HO7 := Aside0.mk (Kd.R_drewN HO6.out nd)
    have B47 : Aside0 ((W6.drewN nd).heap[w.heap.size]? = _) := B46
    have B87 : Aside0 ((W6.drewN nd).heap[w.heap.size + 1]? = _) := B86
    have HB7 := Aside0.mk (pw_below_drewN HB6.out nd)
    have GW7 := Aside0.mk (grown_drewN GW6.out nd)
    generalize W6.drewN nd = W7 at HO7 B47 B87 HB7 GW7 ⊢
    clear HO6 B46 B86 HB6 GW6
    have hbl : ((b.drop f').take s).length = s := by rw [List.length_take, List.length_drop]; omega
    have hrun : ∃ A' : Option Addr, (∀ W : World, (Instr.slice 38 (.slice (some ad) b.length c0) (some (.int .i64 (f' : Int))) (some (.int .i64 ((f' : Int) + (s : Int)))) none).run Try.prog W = .ok (.slice A' s (c0 - f')) W) ∧ (∀ W : World, Below w0.heap.size w0 W → (Kd.int .u8).C W A' s ((b.drop f').take s)) := by
      obtain ⟨i5, hi5⟩ : ∃ i5, Try.prog.info? 5 = some i5 ∧ i5.size = 1 := by
        obtain ⟨i5, h1, h2⟩ := Option.map_eq_some_iff.1 info5
        exact ⟨i5, h1, congrArg (fun q : Option Value × Nat × Nat => q.2.1) h2⟩
      refine ⟨if c0 = f' then some ad else (some ad).map (·.add (f' * 1)), fun W => (cut_mid (P := Try.prog) 38 5 .i64 .i64 Try.underlying38 hi5.1 1 hi5.2 (some ad) b.length c0 (f' : Int) ((f' : Int) + (s : Int)) (by omega) (by omega) (by omega) hc0 W).trans ?_, fun W hW => ?_⟩
      · rw [Int.toNat_natCast, show ((f' : Int) + (s : Int)).toNat - f' = s by omega]
      · have h := Kd.C_mid (k := Kd.int .u8) (lo := f') (hi := f' + s) (Kd.C_below HR0.out hW) (by omega) (by omega) hc0
        rw [List.drop_take, show f' + s - f' = s by omega, hbl] at h
        exact h
    obtain ⟨A', hrun, hC'⟩ := hrun
    obtain ⟨g5, cap5, cur5, hv5, hok5, hbg5, hg5, hn5, hcm5, hcs5, hx5⟩ := kB_raw HO7.out (by simp)
    rw [List.length_append, List.length_singleton] at hv5 hn5
    injection hv5 with q1 q2 q3
    subst q1 q3
    have hxl5 := hx5 xs.length (by simp)
    have eq5 : (xs ++ [((⟨x0', [], 0⟩ : S52), Value.slice none 0 0)])[xs.length]'(by simp) = (⟨x0', [], 0⟩, .slice none 0 0) := by simp
    rw [eq5] at hxl5
    have hcl : Calls Try.prog 63 #[.slice A' s (c0 - f')] W7.drew fun ex w' => ∃ (A2 : Option Addr) (c2 : Nat), ex = .returned (.slice A2 s c2) ∧ Aside0 ((Kd.int .u8).R 5 w' W7.heap.size (fun _ => True) (.slice A2 s c2) ((b.drop f').take s)) ∧ Aside0 (Below W7.heap.size W7 w') ∧ w'.cell? ⟨w.heap.size, 0, none⟩ = some (.slice (some ad) b.length c0) ∧ w'.cell? ⟨w.heap.size, 1, none⟩ = some (.slice (some ⟨g5, 0, none⟩) (xs.length + 1) c5) ∧ w'.cell? ⟨g5, xs.length * 3 + 1, none⟩ = some (.slice none 0 0) ∧ w'.frozen? ⟨g5, xs.length * 3 + 1, none⟩ = false := by
      have := l1Bytes_calls A' (c0 - f') ((b.drop f').take s) W7.drew (by rw [hbl]; exact Kd.C_drew (hC' W7 HB7.out)) (by rw [hbl]; omega) (by rw [hbl]; omega)
      rw [hbl] at this
      refine this.mono ?_
      rintro ex w' ⟨A2, c2, rfl, ho, hb⟩
      have hb' : Below W7.heap.size W7 w' := ⟨hb.os, hb.tape, hb.output, hb.size, hb.block⟩
      have k0 := (hb'.block _ (Array.getElem?_eq_some_iff.1 B47.out).1).trans B47.out
      have k1 := (hb'.block g5 (Array.getElem?_eq_some_iff.1 hg5).1).trans hg5
      exact ⟨A2, c2, rfl, ⟨ho⟩, ⟨hb'⟩, cell_at k0 0, cell_at k0 1, (cell_at k1 _).trans hxl5.c1, free_at k1 _⟩
    have HCL := Aside0.mk hcl
    have HG5 := Aside0.mk hg5
    have HOK5 := Aside0.mk hok5
    have s0 : W7.cell? ⟨w.heap.size, 0, none⟩ = some (.slice (some ad) b.length c0) := cell_at B47.out 0
    have s1 : W7.cell? ⟨w.heap.size, 1, none⟩ = some (.slice (some ⟨g5, 0, none⟩) (xs.length + 1) c5) := cell_at B47.out 1
    have hne5 : w.heap.size ≠ g5 := fun e => hok5.2.1 e.symm
    have hne8 : w.heap.size + 1 ≠ g5 := fun e => hok5.2.2 e.symm
    have HNE8 := Aside0.mk hne8
    have p5 : (0 : Int) ≤ (xs.length : Int) := by omega
    clear hcl hx5 hxl5 hg5 hcs5 hbl hC' hok5 eq5 hne8
    have hsum : IntKind.i64.wrap ((f' : Int) + (s : Int)) = (f' : Int) + (s : Int) := by rw [IntKind.wrap_i64]; omega
    have hpf : (0 : Int) ≤ (f' : Int) := by omega
    have hps : (f' : Int) ≤ (f' : Int) + (s : Int) := by omega
    have hpe : (f' : Int) + (s : Int) ≤ (b.length : Int) := by omega
    have hx1'' : (xs.length : Int) < (xs.length : Int) + 1 := by omega
    have hx1' : (xs.length : Int) < ((xs.length + 1 : Nat) : Int) := by omega
    go_region_held3 (fun w' => w'.cell? ⟨w.heap.size, 0, none⟩ = some (.slice (some ad) b.length c0) ∧ w'.cell? ⟨w.heap.size, 1, none⟩ = some (.slice (some ⟨g5, 0, none⟩) (xs.length + 1) c5)) ((first | go_keep | exact ⟨(far_cell hne5 _ _ _).trans m0, (far_cell hne5 _ _ _).trans m1⟩)) ((go_at_call 63; refine HCL.out.mono ?_; rintro ex w2 ⟨A2, c2, rfl, HO, HB2, m0, m1, m2, m3⟩))
    have HE : Aside0 (rdItem b g e i = .ok ([⟨x0', (b.drop f').take s, 0⟩], f' + s)) := ⟨by
      obtain ⟨g', rfl⟩ : ∃ g', g = g' + 1 := ⟨g - 1, by omega⟩
      unfold rdItem
      rw [HF2.out]
      show (if madeT x0' = true then _ else _) = _
      rw [if_neg (by rw [c12]; simp)]⟩
    have hR8 : kB.R 52 w2 w0.heap.size (fun k => ok k ∧ k ≠ w.heap.size ∧ k ≠ w.heap.size + 1) (.slice (some ⟨g5, 0, none⟩) (xs.length + 1) c5) (xs ++ [(⟨x0', [], 0⟩, .slice none 0 0)]) := Kd.R_below HO7.out HB2.out
    have hgl := (Array.getElem?_eq_some_iff.1 HG5.out).1
    have h4l := (Array.getElem?_eq_some_iff.1 B47.out).1
    have h8l := (Array.getElem?_eq_some_iff.1 B87.out).1
    have hb8 : (Kd.int .u8).R 5 w2 w0.heap.size (fun k => (ok k ∧ k ≠ w.heap.size ∧ k ≠ w.heap.size + 1) ∧ k ≠ g5) (.slice A2 s c2) ((b.drop f').take s) := Kd.R_lower (Kd.R_mono (Kd.R_bound HO.out) (fun k hk => by have h1 := hk.2.1; have h2 := GW7.out.size; exact ⟨⟨HOK.out k (by omega), by omega, by omega⟩, by omega⟩)) HB7.out.size
    have hR9 := kB_set hR8 xs.length 1 (.slice A2 s c2) (⟨x0', (b.drop f').take s, 0⟩, .slice A2 s c2) (by simp) (by omega) (by simp) (by simp) (by simp) hb8
    rw [List.set_append_right _ _ (Nat.le_refl _), Nat.sub_self] at hR9
    have hR9 : kB.R 52 (w2.setCell ⟨g5, xs.length * 3 + 1, none⟩ (.slice A2 s c2)) w0.heap.size (fun k => ok k ∧ k ≠ w.heap.size ∧ k ≠ w.heap.size + 1) (.slice (some ⟨g5, 0, none⟩) (xs.length + 1) c5) (xs ++ [(⟨x0', (b.drop f').take s, 0⟩, .slice A2 s c2)]) := hR9
    have b49 : (w2.setCell ⟨g5, xs.length * 3 + 1, none⟩ (.slice A2 s c2)).heap[w.heap.size]? = some (.cells #[.slice (some ad) b.length c0, .slice (some ⟨g5, 0, none⟩) (xs.length + 1) c5, .int .i64 0, .int .i64 place] 68 (0, 0)) := (heap_other _ _ _ _ _ hne5).trans ((HB2.out.block _ h4l).trans B47.out)
    have b89 : (w2.setCell ⟨g5, xs.length * 3 + 1, none⟩ (.slice A2 s c2)).heap[w.heap.size + 1]? = some (.cells #[.slice none 0 0, .slice none 0 0, .int .i64 0, .int .i64 0] 68 (0, 0)) := (heap_other _ _ _ _ _ HNE8.out).trans ((HB2.out.block _ h8l).trans B87.out)
    have gw9 : w.grownBy (w2.setCell ⟨g5, xs.length * 3 + 1, none⟩ (.slice A2 s c2)) (Value.slice Al xs.length cl).ownBlock := grown_then (grown_trans GW7.out HB2.out) (grown_one w2 g5 _ _) (fun k hk e => HOWN.out k hk (by rw [← e]; rfl))
    have hnd9 : (blocks (xs ++ [((⟨x0', (b.drop f').take s, 0⟩ : S52), Value.slice A2 s c2)])).Nodup := by
      rw [blocks_append, List.nodup_append]
      refine ⟨HND.out, ?_, fun p hp1 q hq e1 => ?_⟩
      · unfold blocks
        cases A2 with
        | none => simp [Value.ownBlock]
        | some a => cases a with
          | mk b o f => simp only [List.filterMap_cons, List.filterMap_nil]; split <;> simp
      · have h1 := kB_blocks HO7.out p (by rw [blocks_append]; exact List.mem_append_left _ hp1)
        obtain ⟨x, hx, hxb⟩ := List.mem_filterMap.1 hq
        rw [List.mem_singleton.1 hx] at hxb
        have := Kd.R_base HO.out q hxb
        omega
    have HR9 := Aside0.mk hR9
    have B49 := Aside0.mk b49
    have B89 := Aside0.mk b89
    have GW9 := Aside0.mk gw9
    have HND9 := Aside0.mk hnd9
    generalize w2.setCell ⟨g5, xs.length * 3 + 1, none⟩ (.slice A2 s c2) = W9 at HR9 B49 B89 GW9 ⊢
    clear m0 m1 m2 m3 s0 s1 hR9 b49 b89 gw9 hnd9 hR8 hb8
    have x0 : W9.cell? ⟨w.heap.size, 0, none⟩ = some (.slice (some ad) b.length c0) := cell_at B49.out 0
    have x1 : W9.cell? ⟨w.heap.size, 1, none⟩ = some (.slice (some ⟨g5, 0, none⟩) (xs.length + 1) c5) := cell_at B49.out 1
    have x2 : W9.cell? ⟨w.heap.size, 2, none⟩ = some (.int .i64 0) := cell_at B49.out 2
    have x3 : W9.cell? ⟨w.heap.size, 3, none⟩ = some (.int .i64 place) := cell_at B49.out 3
    obtain ⟨⟨u0, y0, u1, y1, u2, y2, u3, y3⟩, hk⟩ := four_set B89.out (.slice (some ad) b.length c0) (.slice (some ⟨g5, 0, none⟩) (xs.length + 1) c5) (.int .i64 0) (.int .i64 place)
    have HK := Aside0.mk hk
    have HGR := Aside0.mk (grown_set4 GW9.out (Nat.le_succ w.heap.size) (.slice (some ad) b.length c0) (.slice (some ⟨g5, 0, none⟩) (xs.length + 1) c5) (.int .i64 0) (.int .i64 place))
    have HRF := Aside0.mk (Kd.R_far (Kd.R_far (Kd.R_far (Kd.R_far HR9.out (p := ⟨w.heap.size + 1, 0, none⟩) (fun k hk => hk.2.2) (.slice (some ad) b.length c0)) (p := ⟨w.heap.size + 1, 1, none⟩) (fun k hk => hk.2.2) (.slice (some ⟨g5, 0, none⟩) (xs.length + 1) c5)) (p := ⟨w.heap.size + 1, 2, none⟩) (fun k hk => hk.2.2) (.int .i64 0)) (p := ⟨w.heap.size + 1, 3, none⟩) (fun k hk => hk.2.2) (.int .i64 place))
    clear hk
    go_wp2
    refine bodyPost_ret (results_ct rfl _ _ (w.heap.size + 1) 68 #[.slice (some ad) b.length c0, .slice (some ⟨g5, 0, none⟩) (xs.length + 1) c5, .int .i64 0, .int .i64 place] (0, 0) _ rfl HK.out Try.underlying68 rfl (by kernel_rfl)) rfl ?_
    exact sPost_ok HE.out [(⟨x0', (b.drop f').take s, 0⟩, .slice A2 s c2)] (by rw [List.length_append, Int.natCast_add]; rfl) rfl (by rw [List.length_append]; exact Kd.R_mono HRF.out (fun _ hk => hk.1)) HND9.out HGR.out (fun k hk e => HOWN.out k hk e)
theorem l7Read_calls (b : List Int) (ad : Addr) (c0 : Nat) (w0 : World) (hr0 : Kd.C (Kd.int .u8) w0 (some ad) b.length b) (hc0 : b.length ≤ c0) (hb : ∀ x ∈ b, 0 ≤ x ∧ x ≤ 255) (hl : b.length ≤ 4000) : ∀ g, g ≤ 13 → SSpec b ad c0 w0 g
  | 0, hg => fun i e w Al cl place ok xs he hi hB hok hrow hnd hxl => l7Read_try b ad c0 w0 hr0 hc0 hb hl 0 (fun g' hg' => by omega) i e w Al cl place ok xs hg he hi hB hok hrow hnd hxl
  | g + 1, hg => fun i e w Al cl place ok xs he hi hB hok hrow hnd hxl => l7Read_try b ad c0 w0 hr0 hc0 hb hl (g + 1) (fun g' hg' => by
      obtain rfl : g = g' := by omega
      exact l7Read_calls b ad c0 w0 hr0 hc0 hb hl g (by omega)) i e w Al cl place ok xs hg he hi hB hok hrow hnd hxl
end Go.Proofs.Ytmeobalddjembaa.GFnExactReadDer.Hand
