import Derived.Test.YtmeobalddjembaaGFnStrictReader
import Derived.Test.YtmeobalddjembaaGFnStrictx4
namespace Go.Proofs.Ytmeobalddjembaa.GFnStrict.Hand
open Go.RowKit Go.Proofs.YtmeobalddjembaaW.PrintWords Go.Proofs.YtmeobalddjembaaW.PrintLast Go.Proofs.YtmeobalddjembaaW.PrintMore
set_option linter.unusedVariables false
set_option linter.unusedSimpArgs false
/-! ### spec.l7DrawTree: function 54: that it ends, and gives a tree -/
def leafTags : List Int := [1, 2, 3, 4, 5, 6, 12, 128, 130]
def madeTags : List Int := [48, 49, 160, 163]
def Leaf (l : List S52) : Prop := ∃ (t : Int) (b : List Int), t ∈ leafTags ∧ b.length ≤ 256 ∧ (∀ x ∈ b, 0 ≤ x ∧ x ≤ 255) ∧ l = [⟨t, b, 0⟩]
def DT : Nat → List S52 → Prop
  | 0, l => Leaf l
  | d + 1, l => Leaf l ∨ ∃ (t : Int) (ks : List (List S52)), t ∈ madeTags ∧ ks.length ≤ 3 ∧ (∀ k ∈ ks, DT d k) ∧ l = ⟨t, [], (ks.length : Int)⟩ :: ks.flatten
/-- What the draws ask: the place in the bytes. -/
structure At (l : List Int) (p : Int) : Prop where
  big : l.length ≤ 1048576
  lo : 0 ≤ p
  hi : p ≤ 1048576
theorem and255 (x : Int) : 0 ≤ Go.bits .and .i64 x 255 ∧ Go.bits .and .i64 x 255 ≤ 255 := by
  have h : (BitVec.ofInt 64 x &&& BitVec.ofInt 64 255).toNat ≤ 255 := by
    rw [BitVec.toNat_and]
    exact Nat.le_trans Nat.and_le_right (by decide)
  have e : Go.bits .and .i64 x 255 = IntKind.i64.wrap ((BitVec.ofInt 64 x &&& BitVec.ofInt 64 255).toNat : Int) := rfl
  rw [e]
  generalize (BitVec.ofInt 64 x &&& BitVec.ofInt 64 255).toNat = m at h
  rw [IntKind.wrap_i64]
  omega
theorem byte_some {l : List Int} {p : Int} (h : At l p) (s : Int) : ∃ b p' s', spec_l1Byte.f l p s = some (b, p', s') ∧ 0 ≤ b ∧ b ≤ 255 ∧ At l p' := by
  unfold spec_l1Byte.f
  have hb := h.big
  have h0 := h.lo
  have h1 := h.hi
  by_cases c : p < (l.length : Int)
  · rw [if_pos c, if_pos h0, Base.w64 (x := p + 1) (by omega) (by omega)]
    exact ⟨_, _, _, rfl, (and255 _).1, (and255 _).2, ⟨hb, by omega, by omega⟩⟩
  · rw [if_neg c]
    exact ⟨_, _, _, rfl, (and255 _).1, (and255 _).2, h⟩
theorem below_some {l : List Int} {p : Int} (h : At l p) (s : Int) (a : Int) (h0 : 0 < a) (h1 : a ≤ 256) : ∃ v p' s', spec_l1Below.f l p s a = some (v, p', s') ∧ 0 ≤ v ∧ v < a ∧ At l p' := by
  unfold spec_l1Below.f
  rw [if_neg (by omega), if_pos h1]
  obtain ⟨b, p', s', e, r0, r1, h'⟩ := byte_some h s
  rw [e]
  simp only [Option.bind_some]
  rw [if_neg (by omega), Int.tmod_eq_emod_of_nonneg r0]
  exact ⟨_, _, _, rfl, Int.emod_nonneg _ (by omega), Int.emod_lt_of_pos _ h0, h'⟩
theorem once_some {l : List Int} {p : Int} (h : At l p) (s : Int) (a : Int) (h0 : 0 < a) (h1 : a ≤ 256) : ∃ v p' s', spec_l1Once.f l p s a = some (v, p', s') ∧ At l p' := by
  obtain ⟨v, p', s', e, _, _, h'⟩ := below_some h s a h0 h1
  unfold spec_l1Once.f
  rw [e]
  exact ⟨_, _, _, rfl, h'⟩
theorem pick_some {l : List Int} {p : Int} (h : At l p) (s : Int) (xs : List Int) (h0 : 0 < xs.length) (h1 : xs.length ≤ 256) : ∃ v p' s', spec_l1PickInt.f l p s xs = some (v, p', s') ∧ v ∈ xs ∧ At l p' := by
  obtain ⟨v, p', s', e, v0, v1, h'⟩ := below_some h s (xs.length : Int) (by omega) (by omega)
  unfold spec_l1PickInt.f
  rw [e]
  simp only [Option.bind_some]
  rw [if_pos v0, if_pos v1]
  exact ⟨_, _, _, rfl, Base.rd_mem v0 v1, h'⟩
theorem data_some {l : List Int} {p : Int} (h : At l p) (s : Int) : ∃ k r p' s', spec_l5DrawData.f k l p s 6 = some (r, p', s') ∧ At l p' ∧ r.length ≤ 256 ∧ ∀ x ∈ r, 0 ≤ x ∧ x ≤ 255 := by
  obtain ⟨v, p', s', e, v0, v1, h'⟩ := below_some h s 6 (by omega) (by omega)
  have key : ∀ (n : Nat) (acc : List Int) (p s : Int), At l p → n ≤ 6 → acc.length + n ≤ 256 → (∀ x ∈ acc, 0 ≤ x ∧ x ≤ 255) → ∃ r p' s', spec_l5DrawData.l0 (n + 1) acc (n : Int) l p s = some (r, p', s') ∧ At l p' ∧ r.length ≤ 256 ∧ ∀ x ∈ r, 0 ≤ x ∧ x ≤ 255 := by
    intro n
    induction n with
    | zero =>
      intro acc p s hp _ ha hx
      rw [spec_l5DrawData.l0.eq_2, if_neg (by omega)]
      exact ⟨_, _, _, rfl, hp, by omega, hx⟩
    | succ n ih =>
      intro acc p s hp hn ha hx
      obtain ⟨b, p1, s1, e1, b0, b1, hp1⟩ := byte_some hp s
      rw [spec_l5DrawData.l0.eq_2, if_pos (by omega), e1]
      simp only [Option.bind_some]
      rw [if_pos (by omega), Base.w64 (by omega) (by omega), show ((n + 1 : Nat) : Int) - 1 = (n : Int) by omega]
      exact ih _ _ _ hp1 (by omega) (by simp; omega) (fun x hx2 => by
        rcases List.mem_append.1 hx2 with h1 | h1
        · exact hx x h1
        · rw [List.mem_singleton.1 h1]
          omega)
  obtain ⟨n, rfl⟩ := Int.eq_ofNat_of_zero_le v0
  obtain ⟨r, p2, s2, e2, h2, h3, h4⟩ := key n [] p' s' h' (by omega) (by simp; omega) (by simp)
  refine ⟨n + 1, r, p2, s2, ?_, h2, h3, h4⟩
  unfold spec_l5DrawData.f
  rw [e]
  exact e2
def TPost (w0 : World) (b : List Int) (g d : Nat) (xs : List (S52 × Value)) (ex : Ending) (w' : World) : Prop :=
  ∃ (A : Option Addr) (c : Nat) (ys : List (S52 × Value)) (p h : Int), ex = .returned (.slice A (xs ++ ys).length c) ∧ DT d (ys.map (·.1)) ∧ ys.length ≤ 4 ^ d ∧ IsS94 w0 w' g b p h ∧ At b p ∧ Below w0.heap.size w0 w' ∧ kB.R 52 w' w0.heap.size (fun k => k ≠ g) (.slice A (xs ++ ys).length c) (xs ++ ys) ∧ (blocks (xs ++ ys)).Nodup
def TSpec (b : List Int) (w0 : World) (g d : Nat) : Prop := ∀ (w : World) (p h : Int) (Al : Option Addr) (cl : Nat) (xs : List (S52 × Value)), IsS94 w0 w g b p h → At b p → Below w0.heap.size w0 w → kB.R 52 w w0.heap.size (fun k => k ≠ g) (.slice Al xs.length cl) xs → (blocks xs).Nodup → xs.length + 4 * 4 ^ d ≤ 100000 →
  Calls Try.prog 54 #[.pointer (some ⟨g, 0, none⟩), .slice Al xs.length cl, .int .i64 (d : Int)] w (TPost w0 b g d xs)
theorem i64lit (w : World) (xs : List Int) (hl : xs.length ≤ 100) : (Kd.int .i64).C (w.alloc (.cells (xs.map (Value.int .i64)).toArray 3)) (some ⟨w.heap.size, 0, none⟩) xs.length xs := by
  refine ⟨rfl, by omega, fun _ => ⟨_, rfl, fun j p hp => ⟨[.int .i64 p], rfl, rfl, fun i u hu => ?_⟩⟩⟩
  cases i with
  | succ i => simp at hu
  | zero =>
    obtain rfl : (.int .i64 p : Value) = u := by simpa using hu
    have a : (Addr.add ⟨w.heap.size, 0, none⟩ (j * (Kd.int .i64).sz + 0) : Addr) = ⟨w.heap.size, j, none⟩ := by
      show (Addr.add ⟨w.heap.size, 0, none⟩ (j * 1 + 0) : Addr) = _
      simp [Addr.add]
      omega
    rw [a, cell_at (blk_al_new _ _) j]
    simp [hp]
theorem IsS94.below {w0 w w' : World} {g : Nat} {b : List Int} {p h : Int} (hI : IsS94 w0 w g b p h) (hb : Below w.heap.size w w') : IsS94 w0 w' g b p h := by
  obtain ⟨A0, c0, h1, h2, h3⟩ := hI
  exact ⟨A0, c0, (hb.block g (Array.getElem?_eq_some_iff.1 h1).1).trans h1, h2, h3⟩
theorem IsS94.lt {w0 w : World} {g : Nat} {b : List Int} {p h : Int} (hI : IsS94 w0 w g b p h) : g < w.heap.size := by
  obtain ⟨A0, c0, h1, h2, h3⟩ := hI
  exact (Array.getElem?_eq_some_iff.1 h1).1
theorem IsS94.base {w0 w : World} {g : Nat} {b : List Int} {p h : Int} (hI : IsS94 w0 w g b p h) : w0.heap.size ≤ g := by
  obtain ⟨A0, c0, h1, h2, h3⟩ := hI
  exact h2
theorem four_pow (d : Nat) (hd : d ≤ 3) : 4 ^ d ≤ 64 := by
  match d, hd with
  | 0, _ => decide
  | 1, _ => decide
  | 2, _ => decide
  | 3, _ => decide
set_option maxHeartbeats 8000000 in
set_option maxRecDepth 100000 in
theorem tree_try (b : List Int) (w0 : World) (g d : Nat) (hd3 : d ≤ 3) (ih : ∀ d', d = d' + 1 → TSpec b w0 g d') : TSpec b w0 g d := by
  intro w p h Al cl xs hI hAt hB hrow hnd hxl
  have HND := Aside0.mk hnd
  have HXB : Aside0 (∀ q ∈ blocks xs, q < w.heap.size) := ⟨fun q hq => (kB_blocks hrow q hq).2.1⟩
  clear hnd
  have HI := Aside0.mk hI
  have HAT := Aside0.mk hAt
  have HB := Aside0.mk hB
  have HROW := Aside0.mk hrow
  have hp4 := four_pow d hd3
  obtain ⟨P4, hP4⟩ : ∃ P, 4 ^ d = P := ⟨_, rfl⟩
  rw [hP4] at hxl hp4
  have HP4 := Aside0.mk hP4
  have hP1 : 1 ≤ P4 := by rw [← hP4]; exact Nat.one_le_pow _ _ (by decide)
  have HIH := Aside0.mk ih
  clear hI hAt hB hrow hP4 ih
  go_enter Try.func54, Try.ntmps54
  go_upto_region 1 with (fail)
  go_cut [15] (fun v15 wc => ∃ (v : Bool) (p2 h2 : Int), v15 = .bool v ∧ (v = false → d ≠ 0) ∧ Aside0 (w.heap.size ≤ wc.heap.size) ∧ Aside0 (IsS94 w0 wc g b p2 h2) ∧ Aside0 (At b p2) ∧ Aside0 (Below w0.heap.size w0 wc) ∧ Aside0 (kB.R 52 wc w0.heap.size (fun k => k ≠ g) (.slice Al xs.length cl) xs))
  case first =>
    by_cases c0 : d = 0
    · subst c0
      go_wp2
      go_meet
      case rel => exact ⟨true, p, h, rfl, by simp, ⟨Nat.le_refl _⟩, HI, HAT, HB, HROW⟩
    · obtain ⟨v, p2, h2, e1, hat2⟩ := once_some HAT.out h 3 (by omega) (by omega)
      have HE1 := Aside0.mk e1
      have HAT2 := Aside0.mk hat2
      clear e1 hat2
      go_wp2_with fail
      refine (spec_l1Once.calls g b p h 3 v p2 h2 w0 w HI.out HB.out HE1.out).mono ?_
      rintro ex w1 ⟨rfl, h1, h3, h4⟩
      have HI1 := Aside0.mk h1
      have HB1 := Aside0.mk h3
      have HR1 := Aside0.mk (Kd.R_keep HROW.out h4 (fun k hk => hk))
      have HZ1 := Aside0.mk h4.1
      clear h1 h3 h4
      go_wp2
      go_meet
      case rel => exact ⟨v, p2, h2, congrArg Value.bool (by rw [show ((d : Int) == 0) = false from beq_eq_false_iff_ne.2 (by omega)]; rfl), fun _ => c0, HZ1, HI1, HAT2, HB1, HR1⟩
  case rest =>
    obtain ⟨v, p2, h2, rfl, hv, HZ2, HI2, HAT2, HB2, HR2⟩ := hcut
    clear HI HAT HB HROW
    cases v with
    | true =>
      clear hv
      obtain ⟨k1, body, p3, h3, e1, hat3, hbl, hbr⟩ := data_some HAT2.out h2
      have HE1 := Aside0.mk e1
      have HAT3 := Aside0.mk hat3
      have HBR := Aside0.mk hbr
      clear e1 hat3 hbr
      go_wp2_with fail
      refine (spec_l5DrawData.calls k1 g b p2 h2 6 body p3 h3 w0 wc HI2.out HB2.out HE1.out).mono ?_
      rintro ex w1 ⟨v7, rfl, ho, h1, hb, hk⟩
      obtain ⟨Ab, cb, rfl⟩ := Kd.R_slice ho
      have HI3 := Aside0.mk h1
      have HB3 := Aside0.mk hb
      have HR3 := Aside0.mk (Kd.R_keep HR2.out hk (fun k hk => hk))
      have HBO : Aside0 ((Kd.int .u8).R 5 w1 w0.heap.size (fun k => k ≠ g) (.slice Ab body.length cb) body) := ⟨Kd.R_lower (Kd.R_mono (Kd.R_bound ho) (fun k hk => by have h1 := hk.2.1; have h2 := HI2.out.lt; omega)) HB2.out.size⟩
      have HOWN : Aside0 (∀ q, (Value.slice Ab body.length cb).ownBlock = some q → w.heap.size ≤ q) := ⟨fun q e => Nat.le_trans HZ2.out (Kd.R_base ho q e)⟩
      have HZ3 : Aside0 (w.heap.size ≤ w1.heap.size) := ⟨Nat.le_trans HZ2.out hk.1⟩
      clear ho h1 hb hk
      obtain ⟨v2, p4, h4, e2, hat4⟩ := once_some HAT3.out h3 15 (by omega) (by omega)
      have HE2 := Aside0.mk e2
      have HAT4 := Aside0.mk hat4
      clear e2 hat4
      go_wp2_with fail
      refine (spec_l1Once.calls g b p3 h3 15 v2 p4 h4 w0 w1 HI3.out HB3.out HE2.out).mono ?_
      rintro ex w2 ⟨rfl, h1, h5, h6⟩
      have HI4 := Aside0.mk h1
      have HB4 := Aside0.mk h5
      have HR4 := Aside0.mk (Kd.R_keep HR3.out h6 (fun k hk => hk))
      have HBO4 := Aside0.mk (Kd.R_keep HBO.out h6 (fun k hk => hk))
      have HZ4 : Aside0 (w.heap.size ≤ w2.heap.size) := ⟨Nat.le_trans HZ3.out h6.1⟩
      clear h1 h5 h6
      go_upto_if 19 with (fail)
      go_cut [7] (fun v7 wc => ∃ (A7 : Option Addr) (n7 c7 : Nat) (body2 : List Int) (p5 h5 : Int), v7 = .slice A7 n7 c7 ∧ Aside0 (body2.length = n7) ∧ n7 ≤ 256 ∧ Aside0 (∀ q, (Value.slice A7 n7 c7).ownBlock = some q → w.heap.size ≤ q) ∧ Aside0 (∀ x ∈ body2, 0 ≤ x ∧ x ≤ 255) ∧ Aside0 ((Kd.int .u8).R 5 wc w0.heap.size (fun k => k ≠ g) (.slice A7 n7 c7) body2) ∧ Aside0 (IsS94 w0 wc g b p5 h5) ∧ Aside0 (At b p5) ∧ Aside0 (Below w0.heap.size w0 wc) ∧ Aside0 (kB.R 52 wc w0.heap.size (fun k => k ≠ g) (.slice Al xs.length cl) xs))
      case first =>
        cases v2 with
        | false =>
          go_wp2
          go_meet
          case rel => exact ⟨Ab, body.length, cb, body, p4, h4, rfl, ⟨rfl⟩, hbl, HOWN, HBR, HBO4, HI4, HAT4, HB4, HR4⟩
        | true =>
          obtain ⟨n, p5, h5, e3, hmem, hat5⟩ := pick_some HAT4.out h4 [127, 128, 255, 256] (by decide) (by decide)
          have HE3 := Aside0.mk e3
          have HAT5 := Aside0.mk hat5
          have hn : 0 ≤ n ∧ n ≤ 256 := by
            simp only [List.mem_cons, List.not_mem_nil, or_false] at hmem
            omega
          obtain ⟨n, rfl⟩ := Int.eq_ofNat_of_zero_le hn.1
          clear e3 hat5 hmem
          have HLIT := Aside0.mk (i64lit w2 [127, 128, 255, 256] (by decide))
          have hne : w2.heap.size ≠ g := by have := HI4.out.lt; omega
          have HIA := Aside0.mk (HI4.out.below (below_alloc (Below.refl _ _) (.cells #[.int .i64 127, .int .i64 128, .int .i64 255, .int .i64 256] 3)))
          have HBA := Aside0.mk (below_alloc HB4.out (.cells #[.int .i64 127, .int .i64 128, .int .i64 255, .int .i64 256] 3))
          have HRA := Aside0.mk (Kd.R_alloc HR4.out (.cells #[.int .i64 127, .int .i64 128, .int .i64 255, .int .i64 256] 3))
          go_wp2_with fail
          refine (spec_l1PickInt.calls g b p4 h4 (some ⟨w2.heap.size, 0, none⟩) 4 [127, 128, 255, 256] (n : Int) p5 h5 w0 _ HIA.out HBA.out HLIT.out (by decide) (fun ad e _ => by injection e with e; rw [← e]; exact hne) HE3.out).mono ?_
          rintro ex w3 ⟨rfl, h1, h6, h7⟩
          have HI5 := Aside0.mk h1
          have HB5 := Aside0.mk h6
          have HR5 := Aside0.mk (Kd.R_keep HRA.out h7 (fun k hk => hk))
          have HZ5 : Aside0 (w.heap.size ≤ w3.heap.size) := ⟨by have := h7.1; rw [size_al] at this; have := HZ4.out; omega⟩
          clear h1 h6 h7
          have hn0 : (0 : Int) ≤ (n : Int) := by omega
          go_wp2_with (first | ((with_reducible refine gate_dst (N := 23) rfl ?_); refine Kd.R_make (Kd.int .u8) _ 5 rfl (N := 23) rfl 38 _ _ rfl (n : Int) rfl rfl Try.underlying38 (.int .u8 0) 1 info5 rfl (by decide) (by omega) 0 (ok := fun _ => True) (okp := fun _ => True) rfl (fun _ hk => hk) trivial hn0 (by omega) (Below.refl _ _) (Nat.le_refl _) ?_; intro v7 w5 ho hb hg_ hnew_; clear hg_ hnew_; obtain ⟨A7, c7, rfl⟩ := Kd.R_slice ho; have HO7 := Aside0.mk ho; have HB7 := Aside0.mk hb; clear ho hb))
          go_meet
          case rel =>
            have ho := HO7.out
            have hle : (List.replicate (n : Int).toNat (0 : Int)).length = n := by simp
            refine ⟨A7, n, c7, List.replicate (n : Int).toNat 0, p5, h5, by first | rfl | (rw [hle]) | (simp; done), ⟨hle⟩, by omega, ⟨fun q e => Nat.le_trans HZ5.out (Kd.R_base ho q (by first | exact e | (rw [hle]; exact e)))⟩, ⟨fun x hx => by have := List.eq_of_mem_replicate hx; omega⟩, ⟨?_⟩, ⟨HI5.out.below HB7.out⟩, HAT5, ⟨below_then HB5.out HB5.out.size HB7.out⟩, ⟨Kd.R_below HR5.out HB7.out⟩⟩
            rw [hle] at ho
            exact Kd.R_lower (Kd.R_mono (Kd.R_bound ho) (fun k hk => by have h1 := hk.2.1; have h2 := HI5.out.lt; omega)) HB5.out.size
      case rest =>
        obtain ⟨A7, n7, c7, body2, p5, h5, rfl, HL7, hn7, HOWN7, HBR7, HBO7, HI5, HAT5, HB5, HR5⟩ := hcut
        clear HI2 HAT2 HB2 HR2 HI3 HAT3 HB3 HR3 HBO HI4 HAT4 HB4 HR4 HBO4 HBR hbl
        obtain ⟨t, p6, h6, e4, hmem, hat6⟩ := pick_some HAT5.out h5 leafTags (by decide) (by decide)
        have HE4 := Aside0.mk e4
        have HAT6 := Aside0.mk hat6
        have HMEM := Aside0.mk hmem
        clear e4 hat6 hmem
        have HLIT := Aside0.mk (i64lit wc leafTags (by decide))
        have hne : wc.heap.size ≠ g := by have := HI5.out.lt; omega
        have HIA := Aside0.mk (HI5.out.below (below_alloc (Below.refl _ _) (.cells (leafTags.map (Value.int .i64)).toArray 3)))
        have HBA := Aside0.mk (below_alloc HB5.out (.cells (leafTags.map (Value.int .i64)).toArray 3))
        have HRA := Aside0.mk (Kd.R_alloc HR5.out (.cells (leafTags.map (Value.int .i64)).toArray 3))
        have HBOA := Aside0.mk (Kd.R_alloc HBO7.out (.cells (leafTags.map (Value.int .i64)).toArray 3))
        go_wp2_with fail
        refine (spec_l1PickInt.calls g b p5 h5 (some ⟨wc.heap.size, 0, none⟩) 9 leafTags t p6 h6 w0 _ HIA.out HBA.out HLIT.out (by decide) (fun ad e _ => by injection e with e; rw [← e]; exact hne) HE4.out).mono ?_
        rintro ex w3 ⟨rfl, h1, h8, h7⟩
        have HI6 := Aside0.mk h1
        have HB6 := Aside0.mk h8
        have HR6 := Aside0.mk (Kd.R_keep HRA.out h7 (fun k hk => hk))
        have HBO6 := Aside0.mk (Kd.R_keep HBOA.out h7 (fun k hk => hk))
        clear h1 h8 h7
        have hok7 : ∀ k, (k ≠ g ∧ ∃ cells, w3.heap[k]? = some (Obj.cells cells 5 (0, 0))) → k ≠ g ∧ some k ≠ (Value.slice Al xs.length cl).ownBlock := fun k hk => ⟨hk.1, fun e => by
          obtain ⟨cells, hc⟩ := hk.2
          obtain ⟨_, inner, ho, _⟩ := HR6.out
          obtain ⟨cells2, hc2⟩ := own_typed ho k e.symm
          rw [hc] at hc2
          injection hc2 with hc2
          injection hc2 with _ hc2
          exact absurd hc2 (by decide)⟩
        have HOK7 := Aside0.mk hok7
        have HBM : Aside0 (kB.M w3 w0.heap.size (fun k => k ≠ g ∧ ∃ cells, w3.heap[k]? = some (Obj.cells cells 5 (0, 0))) (⟨t, body2, 0⟩, .slice A7 n7 c7) [.int .i64 t, .slice A7 n7 c7, .int .i64 0]) := ⟨⟨k52_mkM _ _ _ ⟨t, body2, 0⟩ (v1 := .slice A7 n7 c7) (Kd.R_mono (Kd.R_bound HBO6.out) (fun k hk => ⟨hk.1, by
          obtain ⟨_, _, _, q, hq, cells, hc⟩ := hk
          obtain rfl : q = 5 := by simpa [Kd.int, Kd.scalar] using hq
          exact ⟨cells, hc⟩⟩)), rfl⟩⟩
        have hgl := HI6.out.lt
        clear hok7
        go_wp2_with (first | (at_builtin; refine Kd.R_append kB (w0 := w0) w0.heap.size rfl (.tmp 24) (.tmp 30) 25 52 (.agg #[(.int .i64 0), (.slice none 0 0), (.int .i64 0)]) 40 rfl Try.underlying25 info52' rfl (by decide) (by omega) (.slice Al xs.length cl) xs (⟨t, body2, 0⟩, .slice A7 n7 c7) [.int .i64 t, .slice A7 n7 c7, .int .i64 0] (fun k => k ≠ g) (fun k => k ≠ g ∧ ∃ cells, w3.heap[k]? = some (Obj.cells cells 5 (0, 0))) rfl rfl HBM.out HOK7.out (fun k hk => by omega) HR6.out HB6.out HB6.out.size (by omega) ?_; intro v5 w5 ho hb hg hat; obtain ⟨A5, c5, rfl⟩ := Kd.R_slice ho; have HO5 := Aside0.mk ho; have HB5x := Aside0.mk hb; have HI5x : Aside0 (IsS94 w0 w5 g b p6 h6) := ⟨by obtain ⟨A0, c0, q1, q2, q3⟩ := HI6.out; exact ⟨A0, c0, (hg.block g hgl (fun e => HR6.out.1 g e.symm rfl)).trans q1, q2, q3⟩⟩; clear ho hb hg hat))
        go_ret
        refine ⟨A5, c5, [(⟨t, body2, 0⟩, .slice A7 n7 c7)], p6, h6, by rw [List.length_append]; rfl, ?_, by rw [HP4.out]; exact hP1, HI5x.out, HAT6.out, HB5x.out, HO5.out, ?_⟩
        rotate_left
        · rw [blocks_append, List.nodup_append]
          refine ⟨HND.out, ?_, fun q hq q2 hq2 e => ?_⟩
          · show (List.filterMap _ [_]).Nodup
            cases A7 <;> simp [Value.ownBlock]
          · have h1 := HXB.out q hq
            have h2 : (Value.slice A7 n7 c7).ownBlock = some q2 := by
              unfold blocks at hq2
              simpa [List.mem_filterMap] using hq2
            have h3 := HOWN7.out q2 h2
            omega
        have hleaf : Leaf [⟨t, body2, 0⟩] := ⟨t, body2, HMEM.out, by rw [HL7.out]; exact hn7, HBR7.out, rfl⟩
        cases d with
        | zero => exact hleaf
        | succ d => exact .inl hleaf
    | false =>
      have hd0 := hv rfl
      clear hv
      obtain ⟨d', hd'⟩ : ∃ d', d = d' + 1 := ⟨d - 1, by omega⟩
      have IH := Aside0.mk (HIH.out d' hd')
      have HD' := Aside0.mk hd'
      have hP' : P4 = 4 * 4 ^ d' := by rw [← HP4.out, hd', Nat.pow_succ]; omega
      obtain ⟨Q, hQ⟩ : ∃ Q, 4 ^ d' = Q := ⟨_, rfl⟩
      rw [hQ] at hP'
      have HQ := Aside0.mk hQ
      have hQ1 : 1 ≤ Q := by rw [← hQ]; exact Nat.one_le_pow _ _ (by decide)
      clear hd' hQ
      obtain ⟨t, p3, h3, e4, hmem, hat3⟩ := pick_some HAT2.out h2 madeTags (by decide) (by decide)
      have HE4 := Aside0.mk e4
      have HAT3 := Aside0.mk hat3
      have HMEM := Aside0.mk hmem
      clear e4 hat3 hmem
      have HLIT := Aside0.mk (i64lit wc madeTags (by decide))
      have hne : wc.heap.size ≠ g := by have := HI2.out.lt; omega
      have HIA := Aside0.mk (HI2.out.below (below_alloc (Below.refl _ _) (.cells (madeTags.map (Value.int .i64)).toArray 3)))
      have HBA := Aside0.mk (below_alloc HB2.out (.cells (madeTags.map (Value.int .i64)).toArray 3))
      have HRA := Aside0.mk (Kd.R_alloc HR2.out (.cells (madeTags.map (Value.int .i64)).toArray 3))
      go_wp2_with fail
      refine (spec_l1PickInt.calls g b p2 h2 (some ⟨wc.heap.size, 0, none⟩) 4 madeTags t p3 h3 w0 _ HIA.out HBA.out HLIT.out (by decide) (fun ad e _ => by injection e with e; rw [← e]; exact hne) HE4.out).mono ?_
      rintro ex w3 ⟨rfl, h1, h8, h7⟩
      have HI3 := Aside0.mk h1
      have HB3 := Aside0.mk h8
      have HR3 := Aside0.mk (Kd.R_keep HRA.out h7 (fun k hk => hk))
      clear h1 h8 h7
      have hgl := HI3.out.lt
      go_wp2_with (first | (at_builtin; refine Kd.R_append kB (w0 := w0) w0.heap.size rfl (.tmp 34) (.tmp 39) 25 52 (.agg #[(.int .i64 0), (.slice none 0 0), (.int .i64 0)]) 40 rfl Try.underlying25 info52' rfl (by decide) (by omega) (.slice Al xs.length cl) xs (⟨t, [], 0⟩, .slice none 0 0) [.int .i64 t, .slice none 0 0, .int .i64 0] (fun k => k ≠ g) (fun _ => False) rfl rfl ⟨k52_mkM _ _ _ ⟨t, [], 0⟩ (v1 := .slice none 0 0) (Kd.R_nil _ _ _ _ _), rfl⟩ (fun _ hk => hk.elim) (fun k hk => by omega) HR3.out HB3.out HB3.out.size (by omega) ?_; intro v5 w5 ho hb hg hat; obtain ⟨A5, c5, rfl⟩ := Kd.R_slice ho; rw [List.length_append, List.length_singleton] at ho; have HO5 := Aside0.mk ho; have HB5 := Aside0.mk hb; have HI5 : Aside0 (IsS94 w0 w5 g b p3 h3) := ⟨by obtain ⟨A0, c0, q1, q2, q3⟩ := HI3.out; exact ⟨A0, c0, (hg.block g hgl (fun e => HR3.out.1 g e.symm rfl)).trans q1, q2, q3⟩⟩; clear ho hb hg hat))
      obtain ⟨m, p4, h4, e5, hm0, hm1, hat4⟩ := below_some HAT3.out h3 4 (by omega) (by omega)
      obtain ⟨m, rfl⟩ := Int.eq_ofNat_of_zero_le hm0
      have HE5 := Aside0.mk e5
      have HAT4 := Aside0.mk hat4
      clear e5 hat4
      refine (spec_l1Below.calls g b p3 h3 4 (m : Int) p4 h4 w0 w5 HI5.out HB5.out HE5.out).mono ?_
      rintro ex w6 ⟨rfl, h1, h8, h7⟩
      have HI6 := Aside0.mk h1
      have HB6 := Aside0.mk h8
      have HR6 := Aside0.mk (Kd.R_keep HO5.out h7 (fun k hk => hk))
      clear h1 h8 h7
      go_wp2_with fail
      go_loopg [1, 9] m (fun gk v1 v9 wr => ∃ (c : Nat) (A : Option Addr) (c6 N : Nat) (ys : List (S52 × Value)) (ks : List (List S52)) (p7 h7 : Int), c + gk = m ∧ v9 = .int .i64 (gk : Int) ∧ v1 = .slice A N c6 ∧ N = xs.length + 1 + ys.length ∧ ys.length ≤ c * Q ∧ Aside0 (ks.length = c ∧ (∀ k ∈ ks, DT d' k) ∧ ys.map (·.1) = ks.flatten) ∧ Aside0 ((blocks (xs ++ ((⟨t, [], (c : Int)⟩ : S52), Value.slice none 0 0) :: ys)).Nodup) ∧
        Aside0 (IsS94 w0 wr g b p7 h7) ∧ Aside0 (At b p7) ∧ Aside0 (Below w0.heap.size w0 wr) ∧ Aside0 (kB.R 52 wr w0.heap.size (fun k => k ≠ g) (.slice A N c6) (xs ++ ((⟨t, [], (c : Int)⟩ : S52), Value.slice none 0 0) :: ys)))
      case atStart => exact ⟨0, A5, c5, xs.length + 1, [], [], p4, h4, by omega, rfl, rfl, by simp, by simp, ⟨rfl, by simp, rfl⟩, ⟨by rw [blocks_append, blocks_nil]; simpa [blocks] using HND.out⟩, HI6, HAT4, HB6, HR6⟩
      case round =>
        obtain ⟨c, A, c6, N, ys, ks, p7, h7, hc, rfl, rfl, hN, hyl, HKS, HNK, HI7, HAT7, HB7, HR7⟩ := hrel
        have HN := Aside0.mk hN
        have hyl3 : ys.length ≤ 3 * Q := Nat.le_trans hyl (Nat.mul_le_mul_right _ (by omega))
        have hNle : N + 4 * Q ≤ 100000 := by omega
        have hN0 : xs.length < N := by omega
        clear hN
        by_cases hgk : gk = 0
        · subst hgk
          have hfl : (xs ++ ((⟨t, [], (c : Int)⟩ : S52), Value.slice none 0 0) :: ys).length = N := by rw [HN.out, List.length_append, List.length_cons]; omega
          have HFL := Aside0.mk hfl
          clear hfl
          go_wp2
          go_ret
          refine ⟨A, c6, ((⟨t, [], (c : Int)⟩ : S52), Value.slice none 0 0) :: ys, p7, h7, by rw [HFL.out]; rfl, ?_, ?_, HI7.out, HAT7.out, HB7.out, by rw [HFL.out]; exact HR7.out, HNK.out⟩
          · rw [HD'.out]
            refine .inr ⟨t, ks, HMEM.out, by rw [HKS.out.1]; omega, HKS.out.2.1, ?_⟩
            rw [List.map_cons, HKS.out.2.2, HKS.out.1]
          · rw [HP4.out, hP', List.length_cons]
            omega
        · obtain ⟨gk, rfl⟩ : ∃ q, gk = q + 1 := ⟨gk - 1, by omega⟩
          have hcall := IH.out wr p7 h7 A c6 (xs ++ ((⟨t, [], (c : Int)⟩ : S52), Value.slice none 0 0) :: ys) HI7.out HAT7.out HB7.out (by
            have : (xs ++ ((⟨t, [], (c : Int)⟩ : S52), Value.slice none 0 0) :: ys).length = N := by rw [HN.out, List.length_append, List.length_cons]; omega
            rw [this]
            exact HR7.out) HNK.out (by
            have : (xs ++ ((⟨t, [], (c : Int)⟩ : S52), Value.slice none 0 0) :: ys).length = N := by rw [HN.out, List.length_append, List.length_cons]; omega
            rw [this, HQ.out]
            exact hNle)
          have hfl : (xs ++ ((⟨t, [], (c : Int)⟩ : S52), Value.slice none 0 0) :: ys).length = N := by rw [HN.out, List.length_append, List.length_cons]; omega
          rw [hfl, show ((d' : Nat) : Int) = (d : Int) - 1 by rw [HD'.out]; omega] at hcall
          have HFL := Aside0.mk hfl
          have HCALL := Aside0.mk hcall
          clear hfl hcall
          go_wp2_with fail
          refine HCALL.out.mono ?_
          rintro ex w8 ⟨A8, c8, zs, p8, h8, rfl, hdt, hzl, hi8, hat8, hb8, hr8, hnd8⟩
          rw [HQ.out] at hzl
          obtain ⟨N1, hN1⟩ : ∃ N1, ((xs ++ ((⟨t, [], (c : Int)⟩ : S52), Value.slice none 0 0) :: ys) ++ zs).length = N1 := ⟨_, rfl⟩
          have hNl1 : N1 = N + zs.length := by rw [← hN1, List.length_append, HFL.out]
          obtain ⟨g5, cap5, cur5, hv5, hok5, hbg5, hg5, hn5, hcm5, hcs5, hx5⟩ := kB_raw hr8 (by simp)
          have hj5 : xs.length < ((xs ++ ((⟨t, [], (c : Int)⟩ : S52), Value.slice none 0 0) :: ys) ++ zs).length := by rw [hN1, hNl1]; omega
          have hxl5 := hx5 xs.length hj5
          have eq5 : ((xs ++ ((⟨t, [], (c : Int)⟩ : S52), Value.slice none 0 0) :: ys) ++ zs)[xs.length]'hj5 = (⟨t, [], (c : Int)⟩, .slice none 0 0) := by simp
          rw [eq5] at hxl5
          rw [hv5, hN1] at hr8
          rw [hN1] at hv5 ⊢
          rw [hv5]
          have hset := kB_set hr8 xs.length 2 (.int .i64 ((c : Int) + 1)) (⟨t, [], ((c + 1 : Nat) : Int)⟩, .slice none 0 0) hj5 (by omega) (by rw [eq5]; rfl) (by rw [eq5]; rfl) (by simp) (Kd.R_nil _ _ _ _ _)
          have esl : (((xs ++ ((⟨t, [], (c : Int)⟩ : S52), Value.slice none 0 0) :: ys) ++ zs).set xs.length (⟨t, [], ((c + 1 : Nat) : Int)⟩, .slice none 0 0)) = xs ++ ((⟨t, [], ((c + 1 : Nat) : Int)⟩ : S52), Value.slice none 0 0) :: (ys ++ zs) := by
            rw [List.append_assoc, List.set_append_right _ _ (Nat.le_refl _), Nat.sub_self]
            rfl
          rw [esl] at hset
          have hne5 : g ≠ g5 := fun e => hok5 e.symm
          have s2 : w8.cell? ⟨g5, xs.length * 3 + 2, none⟩ = some (.int .i64 (c : Int)) := (cell_at hg5 _).trans hxl5.c2
          have s3 : w8.frozen? ⟨g5, xs.length * 3 + 2, none⟩ = false := free_at hg5 _
          have HSET := Aside0.mk hset
          have HI9 : Aside0 (IsS94 w0 (w8.setCell ⟨g5, xs.length * 3 + 2, none⟩ (.int .i64 ((c : Int) + 1))) g b p8 h8) := ⟨by obtain ⟨A0, c0, q1, q2, q3⟩ := hi8; exact ⟨A0, c0, (heap_other _ _ _ _ _ hne5).trans q1, q2, q3⟩⟩
          have HB9 : Aside0 (Below w0.heap.size w0 (w8.setCell ⟨g5, xs.length * 3 + 2, none⟩ (.int .i64 ((c : Int) + 1)))) := ⟨below_set hb8 hbg5⟩
          have HAT9 := Aside0.mk hat8
          have HKS9 : Aside0 ((ks ++ [zs.map (·.1)]).length = c + 1 ∧ (∀ k ∈ ks ++ [zs.map (·.1)], DT d' k) ∧ (ys ++ zs).map (·.1) = (ks ++ [zs.map (·.1)]).flatten) := ⟨by
            refine ⟨by rw [List.length_append, HKS.out.1]; rfl, fun k hk => ?_, by rw [List.map_append, HKS.out.2.2]; simp⟩
            rcases List.mem_append.1 hk with h1 | h1
            · exact HKS.out.2.1 k h1
            · rw [List.mem_singleton.1 h1]
              exact hdt⟩
          have hy2 : (ys ++ zs).length ≤ (c + 1) * Q := by
            rw [List.length_append, Nat.succ_mul]
            omega
          have HY2 := Aside0.mk hy2
          have px : (0 : Int) ≤ (xs.length : Int) := by omega
          have px2 : (xs.length : Int) < (N1 : Int) := by omega
          have HN9 : Aside0 (N1 = xs.length + 1 + (ys ++ zs).length) := ⟨by rw [hNl1, HN.out, List.length_append]; omega⟩
          have HNK9 : Aside0 ((blocks (xs ++ ((⟨t, [], ((c + 1 : Nat) : Int)⟩ : S52), Value.slice none 0 0) :: (ys ++ zs))).Nodup) := ⟨by
            rw [List.append_assoc, List.cons_append, blocks_append, blocks_nil] at hnd8
            rw [blocks_append, blocks_nil]
            exact hnd8⟩
          clear hnd8 hset esl hxl5 eq5 hx5 hv5 hg5 hcs5 hr8 hi8 hb8 hat8 hdt hN1 hNl1 hj5 hy2
          go_wp2
          go_roundg gk
          case measure => omega
          case rel => exact ⟨c + 1, some ⟨g5, 0, none⟩, cap5, N1, ys ++ zs, ks ++ [zs.map (·.1)], p8, h8, by omega, congrArg (Value.int .i64) (by omega), rfl, HN9.out, HY2.out, HKS9, HNK9, HI9, HAT9, HB9, HSET⟩
theorem tree_calls (b : List Int) (w0 : World) (g : Nat) : ∀ d, d ≤ 3 → TSpec b w0 g d
  | 0, h => tree_try b w0 g 0 h (fun d' hd' => by omega)
  | d + 1, h => tree_try b w0 g (d + 1) h (fun d' hd' => by
      obtain rfl : d = d' := by omega
      exact tree_calls b w0 g d (by omega))
end Go.Proofs.Ytmeobalddjembaa.GFnStrict.Hand
