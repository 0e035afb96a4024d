import Derived.Test.YtgfhbkhbnmgogaaGFnExactFeedStrm
namespace Go.Proofs.Ytgfhbkhbnmgogaa.GFnExactFeed.Hand
open Go.RowKit Go.Proofs.YtgfhbkhbnmgogaaW.PrintWords Go.Proofs.YtgfhbkhbnmgogaaW.PrintLast Go.Proofs.YtgfhbkhbnmgogaaW.PrintMore Go.Proofs.Ytgfhbkhbnmgogaa.GFnExactHmac.Hand
set_option linter.unusedVariables false
set_option linter.unusedSimpArgs false
/-! ### eqStream (18), markStream (19), heldStream (20), StreamOk (35, 39) -/
set_option maxHeartbeats 8000000 in
set_option maxRecDepth 100000 in
theorem eqS_calls (k : Nat) (H : V8) (A : Option Addr) (n c : Nat) (A' : Option Addr) (c' : Nat) (rs : List Int) (m : Int) (w : World) (hC : KB.C w A n rs) (hC' : KB.C w A' n rs) (en : rs.length = n) (hc : n ≤ c) (hc' : n ≤ c') (hf : laws_eqByteS.f k rs rs = some true) :
    Calls Try.prog 18 #[.agg (stC H.l (.slice A n c) m), .agg (stC H.l (.slice A' n c') m)] w fun e w' => e = .returned (.bool true) ∧ Below w.heap.size w w' := by
  have HC := Aside0.mk hC
  have HC' := Aside0.mk hC'
  have HE : Aside0 (∀ W : World, KB.C W A n rs → KB.C W A' n rs → Calls Try.prog 11 #[.slice A n c, .slice A' n c'] W fun e w' => e = .returned (.bool true) ∧ Drawn0 W w') := ⟨fun W h1 h2 => by subst en; exact laws_eqByteS.calls k A c rs A' c' rs true W h1 hc h2 hc' hf⟩
  have HA : Aside0 (∀ w : World, Calls Try.prog 41 #[.agg #[.int .i64 H.a, .int .i64 H.b, .int .i64 H.c, .int .i64 H.d, .int .i64 H.e, .int .i64 H.f, .int .i64 H.g, .int .i64 H.h], .agg #[.int .i64 H.a, .int .i64 H.b, .int .i64 H.c, .int .i64 H.d, .int .i64 H.e, .int .i64 H.f, .int .i64 H.g, .int .i64 H.h]] w fun e w' => e = .returned (.bool true) ∧ Below w.heap.size w w') := ⟨eqA_calls H⟩
  have hm : (m != m) = false := by simp
  clear hC hC' hf en
  show Calls Try.prog 18 #[.agg #[.int .i64 H.a, .int .i64 H.b, .int .i64 H.c, .int .i64 H.d, .int .i64 H.e, .int .i64 H.f, .int .i64 H.g, .int .i64 H.h, .slice A n c, .int .i64 m], .agg #[.int .i64 H.a, .int .i64 H.b, .int .i64 H.c, .int .i64 H.d, .int .i64 H.e, .int .i64 H.f, .int .i64 H.g, .int .i64 H.h, .slice A' n c', .int .i64 m]] w _
  go_enter Try.func18, Try.ntmps18
  go_wp2_with fail
  refine (HA.out _).mono ?_
  rintro e w1 ⟨rfl, hb1⟩
  have hx : w1.heap[w.heap.size]? = some (.cells (stC H.l (.slice A n c) m) 32 (0, 0)) := blk_below (blk_alloc (heap_alloc_last _ _) _) hb1
  have hy : w1.heap[w.heap.size + 1]? = some (.cells (stC H.l (.slice A' n c') m) 32 (0, 0)) := blk_below (alloc_at (size_alloc _ _) _) hb1
  have HB1 := Aside0.mk (below_step (below_alloc (below_alloc (Below.refl w.heap.size w) _) _) hb1)
  have q8 : w1.cell? ⟨w.heap.size, 8, none⟩ = some (.slice A n c) := cell_at hx 8
  have q9 : w1.cell? ⟨w.heap.size, 9, none⟩ = some (.int .i64 m) := cell_at hx 9
  have r8 : w1.cell? ⟨w.heap.size + 1, 8, none⟩ = some (.slice A' n c') := cell_at hy 8
  have r9 : w1.cell? ⟨w.heap.size + 1, 9, none⟩ = some (.int .i64 m) := cell_at hy 9
  clear hb1 hx hy
  go_wp2_with fail
  refine (HE.out _ (Kd.C_below HC.out HB1.out) (Kd.C_below HC'.out HB1.out)).mono ?_
  rintro e w2 ⟨rfl, n2, rfl⟩
  go_wp2
  go_ret
  exact ⟨rfl, pw_below_drewN HB1.out _⟩
set_option maxHeartbeats 8000000 in
set_option maxRecDepth 100000 in
theorem markS_calls (k : Nat) (S : Nat → Prop) (H : V8) (A : Option Addr) (n c : Nat) (rs mk : List Int) (m r0 r1 : Int) (w0 w : World) (hB : Below w0.heap.size w0 w) (hS : ∀ j, S j → j < w.heap.size) (hR : KB.R 5 w w0.heap.size S (.slice A n c) rs) (hf : laws_markByteS.f k rs r0 = some (r1, mk)) :
    Calls Try.prog 19 #[.agg (stC H.l (.slice A n c) m), .int .i64 r0] w fun e w' => e = .returned (.int .i64 r1) ∧ KB.R 5 w' w0.heap.size (fun j => S j ∨ w.heap.size ≤ j) (.slice A n c) mk ∧ Below w0.heap.size w0 w' ∧ Kept w w' S := by
  have HR := Aside0.mk hR
  have HB := Aside0.mk hB
  have HF := Aside0.mk hf
  clear hR hB hf
  show Calls Try.prog 19 #[.agg #[.int .i64 H.a, .int .i64 H.b, .int .i64 H.c, .int .i64 H.d, .int .i64 H.e, .int .i64 H.f, .int .i64 H.g, .int .i64 H.h, .slice A n c, .int .i64 m], .int .i64 r0] w _
  go_enter Try.func19, Try.ntmps19
  go_wp2_with fail
  refine (laws_markByteS.calls k S (.slice A n c) rs r0 r1 mk w0 _ (below_alloc HB.out _) (Kd.R_alloc HR.out _) HF.out).mono ?_
  rintro e w1 ⟨rfl, hr, hb, hk⟩
  have HR1 := Aside0.mk hr
  have HB1 := Aside0.mk hb
  have HK1 := Aside0.mk hk
  clear hr hb hk
  go_wp2
  go_ret
  refine ⟨rfl, Kd.R_mono HR1.out (fun j hj => hj.imp id (fun h => by rw [size_alloc] at h; omega)), HB1.out, ?_⟩
  exact ((Kept.refl w S).alloc _).then_ HK1.out (fun j hj => .inl hj)
set_option maxHeartbeats 8000000 in
set_option maxRecDepth 100000 in
theorem heldS_calls (k : Nat) (H : V8) (A : Option Addr) (n c : Nat) (mk : List Int) (m r0 : Int) (r1 : Nat) (w : World) (hC : KB.C w A n mk) (en : mk.length = n) (hc : n ≤ c) (hf : laws_heldByteS.f k mk r0 = some (r1 : Int)) :
    Calls Try.prog 20 #[.agg (stC H.l (.slice A n c) m), .int .i64 r0] w fun e w' => e = .returned (.int .i64 (r1 : Int)) ∧ Below w.heap.size w w' := by
  have HC := Aside0.mk hC
  have HE : Aside0 (∀ W : World, KB.C W A n mk → Calls Try.prog 13 #[.slice A n c, .int .i64 r0] W fun e w' => e = .returned (.int .i64 (r1 : Int)) ∧ Drawn0 W w') := ⟨fun W h1 => by subst en; exact laws_heldByteS.calls k A c mk r0 (r1 : Int) W h1 hc hf⟩
  clear hC hf en
  show Calls Try.prog 20 #[.agg #[.int .i64 H.a, .int .i64 H.b, .int .i64 H.c, .int .i64 H.d, .int .i64 H.e, .int .i64 H.f, .int .i64 H.g, .int .i64 H.h, .slice A n c, .int .i64 m], .int .i64 r0] w _
  go_enter Try.func20, Try.ntmps20
  go_wp2_with fail
  refine (HE.out _ (Kd.C_alloc HC.out _)).mono ?_
  rintro e w1 ⟨rfl, n1, rfl⟩
  go_wp2
  go_ret
  exact ⟨rfl, pw_below_drewN (below_alloc (Below.refl _ _) _) _⟩
def inH (x : Int) : Bool := decide (0 ≤ x) && decide (x ≤ 4294967295)
def okH (H : V8) : Bool := H.l.all inH
def okS (H : V8) (n : Nat) (m : Int) : Bool := okH H && decide (0 ≤ m ∧ m ≤ 20000 ∧ (n : Int) = m % 64)
theorem allW (l : List Int) : ∀ (d i : Nat), i + d = l.length → l.length ≤ 100 → impl_allWithin.l0 (d + 1) 0 4294967295 l (l.length : Int) (i : Int) = some ((l.drop i).all inH) := by
  intro d
  induction d with
  | zero =>
    intro i hi hl
    rw [impl_allWithin.l0, if_neg (by omega), List.drop_of_length_le (by omega)]
    rfl
  | succ d ih =>
    intro i hi hl
    have hx : l.drop i = rd l (i : Int) :: l.drop (i + 1) := by
      rw [List.drop_eq_getElem_cons (by omega), Base.rd_nat, List.getD_eq_getElem?_getD, List.getElem?_eq_getElem (by omega)]
      rfl
    rw [impl_allWithin.l0, if_pos (by omega), if_pos (by omega), if_pos (by omega), hx, List.all_cons]
    obtain ⟨x, hxx⟩ : ∃ x, rd l (i : Int) = x := ⟨_, rfl⟩
    rw [hxx]
    have hw : impl_within.f x 0 4294967295 = some (inH x) := by
      unfold impl_within.f inH
      by_cases h : x ≥ 0
      · rw [if_pos h]; simp [h]
      · rw [if_neg h]; simp; omega
    rw [hw, Option.bind_some]
    by_cases h : inH x = true
    · rw [if_pos h, h, Base.w64 (by omega) (by omega)]
      exact (ih (i + 1) (by omega) hl).trans (by simp)
    · rw [if_neg h]
      simp at h
      simp [h]
set_option maxHeartbeats 8000000 in
set_option maxRecDepth 100000 in
theorem ok_calls (H : V8) (A : Option Addr) (n c : Nat) (m : Int) (w : World) (hm : -9223372036854775808 ≤ m ∧ m < 9223372036854775808) (hn : n ≤ maxLen) :
    Calls Try.prog 39 #[.agg (stC H.l (.slice A n c) m)] w fun e w' => e = .returned (.bool (okS H n m)) ∧ Below w.heap.size w w' := by
  have HAW : Aside0 (∀ (W : World), W.heap[w.heap.size]? = some (.cells (stC H.l (.slice A n c) m) 32 (0, 0)) → Calls Try.prog 60 #[.slice (some ⟨w.heap.size, 0, none⟩) 8 8, .int .i64 0, .int .i64 4294967295] W fun e w' => e = .returned (.bool (okH H)) ∧ Drawn0 W w') := ⟨fun W h => by
    refine impl_allWithin.calls 9 (some ⟨w.heap.size, 0, none⟩) 8 H.l 0 4294967295 (okH H) W ?_ (Nat.le_refl _) (allW H.l 8 0 rfl (by rw [V8.l_length]; decide))
    refine ⟨rfl, by rw [V8.l_length]; decide, fun _ => ⟨_, rfl, fun j p hp => ⟨[.int .i64 p], rfl, rfl, fun i u hu => ?_⟩⟩⟩
    cases i with
    | succ i => simp at hu
    | zero =>
      obtain rfl : (.int .i64 p : Value) = u := by simpa using hu
      have hj : j < H.l.length := (List.getElem?_eq_some_iff.1 hp).1
      have a : (Addr.add ⟨w.heap.size, 0, none⟩ (j * (Kd.int .i64).sz + 0) : Addr) = ⟨w.heap.size, j, none⟩ := by
        show (Addr.add ⟨w.heap.size, 0, none⟩ (j * 1 + 0) : Addr) = _
        simp [Addr.add]
        omega
      rw [a, cell_at h j, stC_at _ _ _ _ hj, List.getD_eq_getElem?_getD, hp]
      rfl⟩
  obtain ⟨b, hb⟩ : ∃ b, okH H = b := ⟨_, rfl⟩
  have HE : Aside0 (okS H n m = (b && decide (0 ≤ m ∧ m ≤ 20000 ∧ (n : Int) = m % 64))) := ⟨by rw [okS, hb]⟩
  rw [hb] at HAW
  rw [HE.out]
  have HW : Aside0 (∀ r, decide (0 ≤ m ∧ m ≤ 20000) = r → impl_within.f m 0 20000 = some r) := ⟨fun r h => by
    subst h
    unfold impl_within.f
    by_cases h : m ≥ 0
    · rw [if_pos h]; simp [h]
    · rw [if_neg h]; simp; omega⟩
  clear hb HE
  show Calls Try.prog 39 #[.agg #[.int .i64 H.a, .int .i64 H.b, .int .i64 H.c, .int .i64 H.d, .int .i64 H.e, .int .i64 H.f, .int .i64 H.g, .int .i64 H.h, .slice A n c, .int .i64 m]] w _
  have HBX : Aside0 ((w.alloc (.cells #[.int .i64 H.a, .int .i64 H.b, .int .i64 H.c, .int .i64 H.d, .int .i64 H.e, .int .i64 H.f, .int .i64 H.g, .int .i64 H.h, .slice A n c, .int .i64 m] 32)).heap[w.heap.size]? = some (.cells (stC H.l (.slice A n c) m) 32 (0, 0))) := ⟨heap_alloc_last _ _⟩
  cases b with
  | false =>
    go_enter Try.func39, Try.ntmps39
    go_wp2_with fail
    refine (HAW.out _ HBX.out).mono ?_
    rintro e w1 ⟨rfl, n1, rfl⟩
    go_wp2
    go_ret
    exact ⟨by simp, pw_below_drewN (below_alloc (Below.refl _ _) _) _⟩
  | true =>
    by_cases c1 : 0 ≤ m ∧ m ≤ 20000
    · have hin := HW.out true (decide_eq_true c1)
      have HIN := Aside0.mk hin
      have htm : m.tmod 64 = m % 64 := Int.tmod_eq_emod_of_nonneg c1.1
      obtain ⟨mn, rfl⟩ : ∃ k : Nat, m = (k : Int) := ⟨m.toNat, by omega⟩
      clear hin
      go_enter Try.func39, Try.ntmps39
      go_wp2_with fail
      refine (HAW.out _ HBX.out).mono ?_
      rintro e w1 ⟨rfl, n1, rfl⟩
      go_wp2_with fail
      refine (impl_within.calls (mn : Int) 0 20000 true _ HIN.out).mono ?_
      rintro e w2 ⟨rfl, n2, rfl⟩
      go_wp2
      go_ret
      exact ⟨by simp [htm]; rw [Bool.eq_iff_iff]; simp; omega, by repeat (first | exact Below.refl _ _ | apply pw_below_drewN | apply below_alloc)⟩
    · have hin := HW.out false (decide_eq_false c1)
      have HIN := Aside0.mk hin
      clear hin
      go_enter Try.func39, Try.ntmps39
      go_wp2_with fail
      refine (HAW.out _ HBX.out).mono ?_
      rintro e w1 ⟨rfl, n1, rfl⟩
      go_wp2_with fail
      refine (impl_within.calls m 0 20000 false _ HIN.out).mono ?_
      rintro e w2 ⟨rfl, n2, rfl⟩
      go_wp2
      go_ret
      exact ⟨by simp; omega, by repeat (first | exact Below.refl _ _ | apply pw_below_drewN | apply below_alloc)⟩
theorem l1In_H (x : Int) : spec_l1In.f x 0 4294967295 = some (inH x) := by
  unfold spec_l1In.f inH
  by_cases h : x ≥ 0
  · rw [if_pos h]; simp [h]
  · rw [if_neg h]; simp; omega
theorem all_step (l : List Int) (t : Nat) (h : t < l.length) : (l.take (t + 1)).all inH = ((l.take t).all inH && inH (l.getD t 0)) := by
  rw [List.take_add_one, List.all_append, List.getD_eq_getElem?_getD, List.getElem?_eq_getElem h]
  simp
set_option maxHeartbeats 8000000 in
set_option maxRecDepth 100000 in
theorem sok_calls (H : V8) (A : Option Addr) (n c : Nat) (m : Int) (w : World) (hm : -9223372036854775808 ≤ m ∧ m < 9223372036854775808) (hn : n ≤ maxLen) :
    Calls Try.prog 35 #[.agg (stC H.l (.slice A n c) m)] w fun e w' => e = .returned (.bool (okS H n m)) ∧ Below w.heap.size w w' := by
  have HW : Aside0 (∀ r, decide (0 ≤ m ∧ m ≤ 20000) = r → spec_l1In.f m 0 20000 = some r) := ⟨fun r h => by
    subst h
    unfold spec_l1In.f
    by_cases h : m ≥ 0
    · rw [if_pos h]; simp [h]
    · rw [if_neg h]; simp; omega⟩
  show Calls Try.prog 35 #[.agg #[.int .i64 H.a, .int .i64 H.b, .int .i64 H.c, .int .i64 H.d, .int .i64 H.e, .int .i64 H.f, .int .i64 H.g, .int .i64 H.h, .slice A n c, .int .i64 m]] w _
  go_enter Try.func35, Try.ntmps35
  go_wp2
  go_loopg [3] 8 (fun gk v3 wr => ∃ t : Nat, t + gk = 8 ∧ v3 = .int .i64 (t : Int) ∧ Aside0 ((H.l.take t).all inH = true) ∧ Aside0 (wr.heap[w.heap.size]? = some (.cells (stC H.l (.slice A n c) m) 32 (0, 0))) ∧ Aside0 (Below w.heap.size w wr))
  case atStart => exact ⟨0, rfl, rfl, ⟨rfl⟩, ⟨heap_alloc_last _ _⟩, ⟨below_alloc (Below.refl _ _) _⟩⟩
  case round =>
    obtain ⟨t, ht, rfl, HAL, HX, HB⟩ := hrel
    by_cases hlt : (t : Int) < 8
    · have ht2 : t < 8 := by omega
      have cx := cell_at HX.out t
      rw [stC_at _ _ _ _ (by rw [V8.l_length]; omega)] at cx
      have HS := Aside0.mk (all_step H.l t (by rw [V8.l_length]; omega))
      obtain ⟨x, hx⟩ : ∃ x, H.l.getD t 0 = x := ⟨_, rfl⟩
      rw [hx] at cx HS
      obtain ⟨b, hb⟩ : ∃ b, inH x = b := ⟨_, rfl⟩
      have HI := l1In_H x
      rw [hb] at HI HS
      have HI2 := Aside0.mk HI
      clear hx hb HI
      go_wp2_with fail
      refine (spec_l1In.calls x 0 4294967295 b _ HI2.out).mono ?_
      rintro e w1 ⟨rfl, n1, rfl⟩
      cases b with
      | true =>
        go_wp2
        go_roundg (8 - (t + 1))
        case measure => omega
        case rel => exact ⟨t + 1, by omega, by go_num, ⟨by rw [HS.out, HAL.out]; rfl⟩, ⟨HX.out⟩, ⟨pw_below_drewN HB.out _⟩⟩
      | false =>
        have HE : Aside0 (okS H n m = false) := ⟨by
          have h1 : H.l.all inH = false := by
            rw [← List.take_append_drop (t + 1) H.l, List.all_append, HS.out]
            simp
          rw [okS, okH, h1]
          rfl⟩
        go_wp2
        go_ret
        exact ⟨congrArg (fun b => Ending.returned (Value.bool b)) HE.out.symm, pw_below_drewN HB.out _⟩
    · obtain rfl : t = 8 := by omega
      have HE : Aside0 (okS H n m = decide (0 ≤ m ∧ m ≤ 20000 ∧ (n : Int) = m % 64)) := ⟨by
        have h1 : H.l.all inH = true := HAL.out
        rw [okS, okH, h1]
        rfl⟩
      have q8 : wr.cell? ⟨w.heap.size, 8, none⟩ = some (.slice A n c) := cell_at HX.out 8
      have q9 : wr.cell? ⟨w.heap.size, 9, none⟩ = some (.int .i64 m) := cell_at HX.out 9
      clear hlt HAL
      by_cases c1 : 0 ≤ m ∧ m ≤ 20000
      · have hin := HW.out true (decide_eq_true c1)
        have HIN := Aside0.mk hin
        have htm : m.tmod 64 = m % 64 := Int.tmod_eq_emod_of_nonneg c1.1
        obtain ⟨mn, rfl⟩ : ∃ k : Nat, m = (k : Int) := ⟨m.toNat, by omega⟩
        clear hin
        go_wp2_with fail
        refine (spec_l1In.calls (mn : Int) 0 20000 true _ HIN.out).mono ?_
        rintro e w2 ⟨rfl, n2, rfl⟩
        go_wp2
        go_ret
        exact ⟨by rw [HE.out]; simp [htm]; rw [Bool.eq_iff_iff]; simp; omega, by repeat (first | exact HB.out | apply pw_below_drewN | apply below_alloc)⟩
      · have hin := HW.out false (decide_eq_false c1)
        have HIN := Aside0.mk hin
        clear hin
        go_wp2_with fail
        refine (spec_l1In.calls m 0 20000 false _ HIN.out).mono ?_
        rintro e w2 ⟨rfl, n2, rfl⟩
        go_wp2
        go_ret
        exact ⟨by rw [HE.out]; simp; omega, by repeat (first | exact HB.out | apply pw_below_drewN | apply below_alloc)⟩
theorem okS_wrap {H : V8} {n : Nat} {m : Int} (h : okS H n m = true) : wrapV H = H ∧ ∃ k : Nat, m = (k : Int) ∧ k ≤ 20000 ∧ n = k % 64 := by
  unfold okS okH at h
  rw [Bool.and_eq_true, decide_eq_true_eq] at h
  obtain ⟨h1, h2, h3, h4⟩ := h
  refine ⟨?_, m.toNat, by omega, by omega, by omega⟩
  simp [V8.l, inH] at h1
  obtain ⟨⟨_, _⟩, ⟨_, _⟩, ⟨_, _⟩, ⟨_, _⟩, ⟨_, _⟩, ⟨_, _⟩, ⟨_, _⟩, ⟨_, _⟩⟩ := h1
  obtain ⟨a, b, c, d, e, f, g, h⟩ := H
  simp only at *
  unfold wrapV
  simp only [V8.mk.injEq]
  omega
end Go.Proofs.Ytgfhbkhbnmgogaa.GFnExactFeed.Hand
