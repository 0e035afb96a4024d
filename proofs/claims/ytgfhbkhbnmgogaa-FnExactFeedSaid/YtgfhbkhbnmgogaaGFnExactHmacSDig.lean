import Derived.Test.YtgfhbkhbnmgogaaGFnExactHmacSFed
namespace Go.Proofs.Ytgfhbkhbnmgogaa.GFnExactHmac.Hand
open Go.RowKit Go.Proofs.YtgfhbkhbnmgogaaW.PrintWords Go.Proofs.YtgfhbkhbnmgogaaW.PrintLast Go.Proofs.YtgfhbkhbnmgogaaW.PrintMore
set_option linter.unusedVariables false
set_option linter.unusedSimpArgs false
/-! ### spec.l5Digest (42) -/
theorem sizeB_alt (m t : Nat) (ht : t < 8) : 8 * (m : Int) / 2 ^ (8 * (7 - t)) % 256 = sizeB m t := by
  unfold sizeB
  rw [show 8 * (7 - t) = 56 - 8 * t by omega]
theorem RawS.of_R {w : World} {base : Nat} {ok : Nat → Prop} {A : Option Addr} {n c : Nat} {xs : List Int} (h : (Kd.int .u8).R 5 w base ok (.slice A n c) xs) (hn : xs.length = n) : RawS w A n xs := by
  refine ⟨hn, ?_⟩
  by_cases e : xs = []
  · subst e; exact .inl hn.symm
  · obtain ⟨g, cap, cur, hv, hg, hc, ha⟩ := int_raw h e
    injection hv with e1 e2 e3
    exact .inr ⟨g, 0, cur, e1, hc, fun i hi => by rw [Nat.zero_add]; exact ha i (by omega)⟩
theorem iC_facts {w : World} {g : Nat} {h : V8} (hg : w.heap[g]? = some (.cells h.i 28 (0, 0))) :
    (w.cell? ⟨g, 0, none⟩ = some (.int .i64 h.a) ∧ w.cell? ⟨g, 1, none⟩ = some (.int .i64 h.b) ∧ w.cell? ⟨g, 2, none⟩ = some (.int .i64 h.c) ∧ w.cell? ⟨g, 3, none⟩ = some (.int .i64 h.d) ∧ w.cell? ⟨g, 4, none⟩ = some (.int .i64 h.e) ∧ w.cell? ⟨g, 5, none⟩ = some (.int .i64 h.f) ∧ w.cell? ⟨g, 6, none⟩ = some (.int .i64 h.g) ∧ w.cell? ⟨g, 7, none⟩ = some (.int .i64 h.h)) ∧
    (w.frozen? ⟨g, 0, none⟩ = false ∧ w.frozen? ⟨g, 1, none⟩ = false ∧ w.frozen? ⟨g, 2, none⟩ = false ∧ w.frozen? ⟨g, 3, none⟩ = false ∧ w.frozen? ⟨g, 4, none⟩ = false ∧ w.frozen? ⟨g, 5, none⟩ = false ∧ w.frozen? ⟨g, 6, none⟩ = false ∧ w.frozen? ⟨g, 7, none⟩ = false) :=
  ⟨⟨cell_at hg 0, cell_at hg 1, cell_at hg 2, cell_at hg 3, cell_at hg 4, cell_at hg 5, cell_at hg 6, cell_at hg 7⟩,
   ⟨free_at hg 0, free_at hg 1, free_at hg 2, free_at hg 3, free_at hg 4, free_at hg 5, free_at hg 6, free_at hg 7⟩⟩
theorem iC_box {w : World} {g : Nat} {h h' : V8} (hg : w.heap[g]? = some (.cells h.i 28 (0, 0))) : (((((((((w.setCell ⟨g, 0, none⟩ (.int .i64 h'.a)).setCell ⟨g, 1, none⟩ (.int .i64 h'.b)).setCell ⟨g, 2, none⟩ (.int .i64 h'.c)).setCell ⟨g, 3, none⟩ (.int .i64 h'.d)).setCell ⟨g, 4, none⟩ (.int .i64 h'.e)).setCell ⟨g, 5, none⟩ (.int .i64 h'.f)).setCell ⟨g, 6, none⟩ (.int .i64 h'.g)).setCell ⟨g, 7, none⟩ (.int .i64 h'.h))).heap[g]? = some (.cells h'.i 28 (0, 0)) := by
  have s : ∀ (W : World) (l : List Int) (i : Nat) (x : Int), W.heap[g]? = some (.cells (is l) 28 (0, 0)) → (W.setCell ⟨g, i, none⟩ (.int .i64 x)).heap[g]? = some (.cells (is (l.set i x)) 28 (0, 0)) := fun W l i x h => by rw [heap_set h i _, is_set]
  exact s _ _ 7 _ (s _ _ 6 _ (s _ _ 5 _ (s _ _ 4 _ (s _ _ 3 _ (s _ _ 2 _ (s _ _ 1 _ (s _ h.l 0 _ hg)))))))
set_option maxHeartbeats 8000000 in
set_option maxRecDepth 100000 in
theorem sdigest_calls (H : V8) (Ar : Option Addr) (nr cr : Nat) (rs : List Int) (m : Nat) (w : World) (hH : wrapV H = H) (hr : (Kd.int .u8).C w Ar nr rs) (er : rs.length = nr) (hcr : nr ≤ cr) (hnm : nr = m % 64) (lm : m ≤ 20000) :
    Calls Try.prog 42 #[.agg (stC H.l (.slice Ar nr cr) (m : Int))] w fun e w' => ∃ v, e = .returned v ∧ (Kd.int .u8).R 5 w' w.heap.size (fun _ => True) v (digL H rs m) ∧ Below w.heap.size w w' := by
  have HH := Aside0.mk hH
  have HRS := Aside0.mk hr
  have ER := Aside0.mk er
  have HCR := Aside0.mk hcr
  obtain ⟨z, hz⟩ : ∃ z : Nat, (119 - m % 64) % 64 = z := ⟨_, rfl⟩
  have hzl : z < 64 := by omega
  have HZ1 : Aside0 (∀ j, j < z → (nr + 1 + j) % 64 ≠ 56) := ⟨fun j hj => by omega⟩
  have HZ2 : Aside0 ((nr + 1 + z) % 64 = 56) := ⟨by omega⟩
  have HZ := Aside0.mk hz
  have lr : nr < 64 := by omega
  clear hH hr er hcr hz hnm
  show Calls Try.prog 42 #[.agg #[.int .i64 H.a, .int .i64 H.b, .int .i64 H.c, .int .i64 H.d, .int .i64 H.e, .int .i64 H.f, .int .i64 H.g, .int .i64 H.h, .slice Ar nr cr, .int .i64 (m : Int)]] w _
  go_enter Try.func42, Try.ntmps42
  go_upto_region 1 with (fail)
  obtain ⟨wB, hwB⟩ : ∃ x, w.alloc (.cells #[.int .i64 H.a, .int .i64 H.b, .int .i64 H.c, .int .i64 H.d, .int .i64 H.e, .int .i64 H.f, .int .i64 H.g, .int .i64 H.h, .slice Ar nr cr, .int .i64 (m : Int)] 32) = x := ⟨_, rfl⟩
  rw [hwB]
  have HB0 : Aside0 (Below w.heap.size w wB) := ⟨by rw [← hwB]; exact below_alloc (Below.refl _ _) _⟩
  have HSB : Aside0 (wB.heap.size = w.heap.size + 1) := ⟨by rw [← hwB]; exact size_alloc _ _⟩
  have HBX : Aside0 (wB.heap[w.heap.size]? = some (.cells (stC H.l (.slice Ar nr cr) (m : Int)) 32 (0, 0))) := ⟨by rw [← hwB]; exact heap_alloc_last _ _⟩
  clear hwB
  have hm9 : wB.cell? ⟨w.heap.size, 9, none⟩ = some (.int .i64 (m : Int)) := cell_at HBX.out 9
  have hm8 : wB.cell? ⟨w.heap.size, 8, none⟩ = some (.slice Ar nr cr) := cell_at HBX.out 8
  have hmm : IntKind.i64.wrap (8 * (m : Int)) = 8 * (m : Int) := (i64_w _).trans (by rw [Base.w64] <;> omega)
  have HL1 : Aside0 (spec_l1Bytes.f rs = some rs) := ⟨by unfold spec_l1Bytes.f; simp; rw [ER.out]; omega⟩
  go_wp2_with fail
  have hl1 := spec_l1Bytes.calls Ar cr rs rs wB (by rw [ER.out]; exact Kd.C_below HRS.out HB0.out) (by rw [ER.out]; exact HCR.out) HL1.out
  rw [ER.out] at hl1
  refine hl1.mono ?_
  clear hl1
  rintro e w1 ⟨v1, rfl, hr1, hb1⟩
  obtain ⟨A1, c1, e1⟩ := Kd.R_slice hr1
  rw [ER.out] at e1
  subst e1
  have HR1 := Aside0.mk hr1
  have HB1 := Aside0.mk hb1
  clear hr1 hb1 hm8 hm9 hmm
  go_wp2_with ((with_reducible refine gate_builtin (b := .append) (xs := #[.tmp 15, .tmp 16]) rfl ?_); refine halt_ ?_)
  unfold Halt_
  at_builtin
  refine Kd.R_append (Kd.int .u8) (w0 := wB) wB.heap.size rfl (.tmp 15) (.tmp 16) 22 5 (.int .u8 0) 1 rfl Try.underlying22 info5 rfl (by decide) (by omega) (.slice A1 nr c1) rs 128 [.int .u8 128] (fun _ => True) (fun _ => False) rfl rfl rfl (fun _ hk => hk.elim) (fun _ _ => trivial) HR1.out HB1.out HB1.out.size (by rw [ER.out]; omega) ?_
  intro v9 w9 ho hb hg hat
  obtain ⟨A9, c9, e9⟩ := Kd.R_slice ho
  rw [List.length_append, ER.out, List.length_singleton] at e9
  subst e9
  have HO : Aside0 ((Kd.int .u8).R 5 w9 wB.heap.size (fun _ => True) (.slice A9 (nr + 1) c9) (rs ++ [128])) := ⟨ho⟩
  have HB := Aside0.mk hb
  clear ho hb hg hat HR1 HB1
  go_wp2
  go_loopg [4] z (fun gk v4 wr => ∃ (j : Nat) (A : Option Addr) (c : Nat), j + gk = z ∧ v4 = .slice A (nr + 1 + j) c ∧ Aside0 ((Kd.int .u8).R 5 wr wB.heap.size (fun _ => True) (.slice A (nr + 1 + j) c) (rs ++ [128] ++ List.replicate j 0)) ∧ Aside0 (Below wB.heap.size wB wr))
  case atStart => exact ⟨0, A9, c9, by omega, rfl, ⟨by simpa using HO.out⟩, HB⟩
  case round =>
    clear HO HB
    obtain ⟨j, A, c, hj, rfl, HO, HB⟩ := hrel
    by_cases hlt : j < z
    · have hne : (((nr + 1 + j : Nat) : Int) % 64 == 56) = false := by
        have := HZ1.out j hlt
        exact beq_eq_false_iff_ne.2 (by omega)
      go_wp2_with ((with_reducible refine gate_builtin (b := .append) (xs := #[.tmp 22, .tmp 23]) rfl ?_); refine halt_ ?_)
      unfold Halt_
      at_builtin
      refine Kd.R_append (Kd.int .u8) (w0 := wB) wB.heap.size rfl (.tmp 22) (.tmp 23) 22 5 (.int .u8 0) 1 rfl Try.underlying22 info5 rfl (by decide) (by omega) (.slice A (nr + 1 + j) c) (rs ++ [128] ++ List.replicate j 0) 0 [.int .u8 0] (fun _ => True) (fun _ => False) rfl rfl rfl (fun _ hk => hk.elim) (fun _ _ => trivial) HO.out HB.out HB.out.size (by simp; rw [ER.out]; omega) ?_
      intro v9 w9 ho hb hg hat
      obtain ⟨A9, c9, e9⟩ := Kd.R_slice ho
      have hl0 : (rs ++ [128] ++ List.replicate j 0 ++ [(0 : Int)]).length = nr + 1 + (j + 1) := by simp; rw [ER.out]; omega
      rw [hl0] at e9
      subst e9
      have ho' : (Kd.int .u8).R 5 w9 wB.heap.size (fun _ => True) (.slice A9 (nr + 1 + (j + 1)) c9) (rs ++ [128] ++ List.replicate (j + 1) 0) := by
        rw [List.replicate_succ', ← List.append_assoc]
        exact ho
      have HO2 := Aside0.mk ho'
      have HB2 := Aside0.mk hb
      clear ho ho' hb hg hat hl0
      go_wp2
      go_roundg (z - (j + 1))
      case measure => omega
      case rel => exact ⟨j + 1, A9, c9, by omega, rfl, HO2, HB2⟩
    · obtain rfl : j = z := by omega
      have heq : (((nr + 1 + j : Nat) : Int) % 64 == 56) = true := by
        have := HZ2.out
        exact beq_iff_eq.2 (by omega)
      have HO1 : Aside0 ((Kd.int .u8).R 5 wr wB.heap.size (fun _ => True) (.slice A (nr + 1 + j) c) (rs ++ tailB m 0)) := ⟨by
        have h := HO.out
        rw [tailB, HZ.out, ← List.append_assoc]
        exact h⟩
      clear HO hlt hj
      have hbf : (((nr : Int) + 1 + (j : Int)) % 64 != 56) = false := by
        have := HZ2.out
        rw [bne_eq_false_iff_eq]
        omega
      go_wp2
      clear heq hbf
      go_loopg [4, 5] 8 (fun gk v4 v5 wr => ∃ (t : Nat) (A : Option Addr) (c : Nat), t + gk = 8 ∧ v5 = .int .i64 (7 - (t : Int)) ∧ v4 = .slice A (nr + 1 + j + t) c ∧ Aside0 ((Kd.int .u8).R 5 wr wB.heap.size (fun _ => True) (.slice A (nr + 1 + j + t) c) (rs ++ tailB m t)) ∧ Aside0 (Below wB.heap.size wB wr))
      case atStart => exact ⟨0, A, c, rfl, rfl, rfl, HO1, HB⟩
      case round =>
        clear HO1 HB
        obtain ⟨t, A, c, ht, rfl, rfl, HO, HB⟩ := hrel
        by_cases hlt : t < 8
        · go_wp2_with ((with_reducible refine gate_builtin (b := .append) (xs := #[.tmp 29, .tmp 35]) rfl ?_); refine halt_ ?_)
          unfold Halt_
          at_builtin
          rw [sizeB_alt m t hlt]
          refine Kd.R_append (Kd.int .u8) (w0 := wB) wB.heap.size rfl (.tmp 29) (.tmp 35) 22 5 (.int .u8 0) 1 rfl Try.underlying22 info5 rfl (by decide) (by omega) (.slice A (nr + 1 + j + t) c) (rs ++ tailB m t) (sizeB m t) [.int .u8 (sizeB m t)] (fun _ => True) (fun _ => False) rfl rfl rfl (fun _ hk => hk.elim) (fun _ _ => trivial) HO.out HB.out HB.out.size (by simp; rw [ER.out, tailB_length, HZ.out]; omega) ?_
          intro v9 w9 ho hb hg hat
          obtain ⟨A9, c9, e9⟩ := Kd.R_slice ho
          have hl0 : (rs ++ tailB m t ++ [sizeB m t]).length = nr + 1 + j + (t + 1) := by simp; rw [ER.out, tailB_length, HZ.out]; omega
          rw [hl0] at e9
          subst e9
          have ho' : (Kd.int .u8).R 5 w9 wB.heap.size (fun _ => True) (.slice A9 (nr + 1 + j + (t + 1)) c9) (rs ++ tailB m (t + 1)) := by
            rw [tailB, ← List.append_assoc]
            exact ho
          have HO2 := Aside0.mk ho'
          have HB2 := Aside0.mk hb
          clear ho ho' hb hg hat hl0
          go_wp2
          go_roundg (8 - (t + 1))
          case measure => omega
          case rel => exact ⟨t + 1, A9, c9, by omega, by go_num, rfl, HO2, HB2⟩
        · obtain rfl : t = 8 := by omega
          clear hlt
          have HBXr : Aside0 (wr.heap[w.heap.size]? = some (.cells (stC H.l (.slice Ar nr cr) (m : Int)) 32 (0, 0))) := ⟨blk_below HBX.out HB.out⟩
          obtain ⟨⟨q0, q1, q2, q3, q4, q5, q6, q7, _, _⟩, _⟩ := stC_facts HBXr.out
          obtain ⟨tl, htl⟩ : ∃ tl, rs ++ tailB m 8 = tl := ⟨_, rfl⟩
          obtain ⟨L, hL⟩ : ∃ L, nr + 1 + j + 8 = L := ⟨_, rfl⟩
          have HTL : Aside0 (tl.length = L) := ⟨by rw [← htl, List.length_append, ER.out, tailB_length, HZ.out]; omega⟩
          have HL6 : Aside0 (L % 64 = 0) := ⟨by have := HZ2.out; omega⟩
          have hL2 : L ≤ 200 := by omega
          rw [htl, hL] at HO
          rw [hL]
          have HD : Aside0 (digL H rs m = outL (feedL (L / 64) H tl).1.l 8) := ⟨by
            rw [digL, htl]
            have e : rs.length + (tailB m 8).length = L := by rw [ER.out, tailB_length, HZ.out]; omega
            rw [e]⟩
          obtain ⟨F, hF⟩ : ∃ F, feedL (L / 64) H tl = F := ⟨_, rfl⟩
          rw [hF] at HD
          have HF := Aside0.mk hF
          have hnc : L ≤ c := (Kd.R_reads' HO.out).2.1
          have HRW := Aside0.mk (RawS.of_R HO.out HTL.out)
          have HBW : Aside0 (Below w.heap.size w wr) := ⟨below_step HB0.out HB.out⟩
          clear htl hL hF HO HB
          obtain ⟨gh, hgh⟩ : ∃ g, wr.heap.size = g := ⟨_, rfl⟩
          have HGH := Aside0.mk hgh
          have hghw : w.heap.size ≤ gh := by have := HBW.out.size; omega
          go_wp2
          clear q0 q1 q2 q3 q4 q5 q6 q7 hgh
          obtain ⟨i5, hi5, hi5s⟩ := Option.map_eq_some_iff.1 info5
          have HCM : Aside0 (∀ (a b : Int), 0 ≤ a → a ≤ b → b ≤ (L : Int) → ∀ W : World, (Instr.slice 22 (.slice A L c) (some (.int .i64 a)) (some (.int .i64 b)) none).run Try.prog W = .ok (.slice (if c = a.toNat then A else A.map (·.add (a.toNat * 1))) (b.toNat - a.toNat) (c - a.toNat)) W) := ⟨fun a b h0 h1 h2 => cut_mid (P := Try.prog) 22 5 .i64 .i64 Try.underlying22 hi5 1 (by simp only [Prod.mk.injEq] at hi5s; exact hi5s.2.1) A L c a b h0 h1 h2 hnc⟩
          clear hi5 hi5s
          go_loopg [7] (L / 64) (fun gk v7 wr => ∃ (i : Nat) (h : V8), i + gk = L / 64 ∧ v7 = .int .i64 ((64 * i : Nat) : Int) ∧ Aside0 (wrapV h = h) ∧ Aside0 (feedL gk h (tl.drop (64 * i)) = F) ∧ Aside0 (RawS wr A L tl) ∧ Aside0 (Below w.heap.size w wr) ∧ Aside0 (wr.heap[gh]? = some (.cells h.i 28 (0, 0))))
          case atStart =>
            refine ⟨0, H, by omega, rfl, HH, ⟨by rw [Nat.mul_zero, List.drop_zero]; exact HF.out⟩, ⟨HRW.out.move (fun g cs hg => blk_alloc hg _)⟩, ⟨below_alloc HBW.out _⟩, ⟨alloc_at HGH.out _⟩⟩
          case round =>
            clear HRW HBW HF HH
            obtain ⟨i, h, hi, rfl, HH, HF, HRW, HBW, HG⟩ := hrel
            by_cases hlt : 64 * i < L
            · obtain ⟨k, rfl⟩ : ∃ k, gk = k + 1 := ⟨gk - 1, by have := HL6.out; omega⟩
              obtain ⟨⟨q0, q1, q2, q3, q4, q5, q6, q7⟩, _⟩ := iC_facts HG.out
              obtain ⟨a, ha⟩ : ∃ a : Int, ((64 * i : Nat) : Int) = a := ⟨_, rfl⟩
              obtain ⟨b, hb⟩ : ∃ b : Int, a + 64 = b := ⟨_, rfl⟩
              have h64 : 64 * i + 64 ≤ L := by have := HL6.out; omega
              have hcm := HCM.out a b (by omega) (by omega) (by omega)
              rw [show b.toNat - a.toNat = 64 by omega, show a.toNat = 64 * i by omega, Nat.mul_one] at hcm
              obtain ⟨A2, hA2⟩ : ∃ A2, (if c = 64 * i then A else A.map (·.add (64 * i))) = A2 := ⟨_, rfl⟩
              rw [hA2] at hcm
              have HW2 : Aside0 (RawS wr A2 64 ((tl.drop (64 * i)).take 64)) := ⟨by
                rw [← hA2]
                by_cases e0 : i = 0
                · subst e0
                  have e : (if c = 64 * 0 then A else A.map (·.add (64 * 0))) = A := by
                    rw [if_neg (by omega)]
                    cases A <;> simp [Addr.add]
                  rw [e, Nat.mul_zero, List.drop_zero]
                  exact HRW.out.take (by omega)
                · exact (HRW.out.drop (k := 64 * i) (by omega) (by omega) hnc).take (by omega)⟩
              have hbc := block_calls h A2 64 (c - 64 * i) ((tl.drop (64 * i)).take 64) wr.drew (HW2.out.C (by omega)) (by omega) HW2.out.1 HH.out
              rw [blk_take] at hbc
              obtain ⟨h2, hh2⟩ : ∃ x, blk h (tl.drop (64 * i)) = x := ⟨_, rfl⟩
              rw [hh2] at hbc
              unfold V8.i at hbc
              have HBC := Aside0.mk hbc
              have HH2 := Aside0.mk hh2
              have eb : IntKind.i64.wrap (a + 64) = b := (i64_w _).trans (by rw [Base.w64] <;> omega)
              have qa := eq_true (show a < (L : Int) by omega)
              rw [ha]
              have HA := Aside0.mk ha
              have HBB := Aside0.mk hb
              clear hbc hh2 hA2 ha hb h64
              go_wp2
              go_region_with ((go_at_call 59; refine HBC.out.mono ?_; rintro e w2 ⟨rfl, hb2⟩; obtain ⟨⟨r0, r1, r2, r3, r4, r5, r6, r7⟩, ⟨t0, t1, t2, t3, t4, t5, t6, t7⟩⟩ := iC_facts (blk_below (blk_drew HG.out) hb2)))
              go_wp2
              have HG2 := Aside0.mk (iC_box (h' := h2) (blk_below (blk_drew HG.out) hb2))
              go_roundg k
              case measure => omega
              case rel =>
                have hk : ∀ j, j ≠ gh → ((((((((w2.setCell ⟨gh, 0, none⟩ (.int .i64 h2.a)).setCell ⟨gh, 1, none⟩ (.int .i64 h2.b)).setCell ⟨gh, 2, none⟩ (.int .i64 h2.c)).setCell ⟨gh, 3, none⟩ (.int .i64 h2.d)).setCell ⟨gh, 4, none⟩ (.int .i64 h2.e)).setCell ⟨gh, 5, none⟩ (.int .i64 h2.f)).setCell ⟨gh, 6, none⟩ (.int .i64 h2.g)).setCell ⟨gh, 7, none⟩ (.int .i64 h2.h)).heap[j]? = w2.heap[j]? := fun j hj => by
                  rw [heap_other _ _ _ _ _ hj, heap_other _ _ _ _ _ hj, heap_other _ _ _ _ _ hj, heap_other _ _ _ _ _ hj, heap_other _ _ _ _ _ hj, heap_other _ _ _ _ _ hj, heap_other _ _ _ _ _ hj, heap_other _ _ _ _ _ hj]
                refine ⟨i + 1, h2, by omega, by congr 1; have := HA.out; have := HBB.out; omega, ⟨by rw [← HH2.out]; exact wrap_blk _ _⟩, ⟨by have h := HF.out; rw [feedL, HH2.out, List.drop_drop, show 64 * i + 64 = 64 * (i + 1) by omega] at h; exact h⟩, ⟨HRW.out.move (fun g cs hg => ?_)⟩, ⟨below_set (below_set (below_set (below_set (below_set (below_set (below_set (below_set (below_step (below_drew HBW.out) hb2) hghw) hghw) hghw) hghw) hghw) hghw) hghw) hghw⟩, HG2⟩
                rw [hk g (fun e => ?_)]
                · exact blk_below (blk_drew hg) hb2
                · subst e
                  rw [HG.out] at hg
                  injection hg with hg
                  injection hg with h1 h2
                  exact absurd h2 (by decide)
            · obtain rfl : gk = 0 := by omega
              have e3 : i = L / 64 := by omega
              obtain rfl := HF.out
              have hlt2 : ¬ (((64 * i : Nat) : Int) < (L : Int)) := by omega
              clear hlt e3 HRW HCM
              obtain ⟨wS, hwS⟩ : ∃ x, x = wr := ⟨_, rfl⟩
              subst hwS
              have hgl : gh + 1 ≤ wS.heap.size := blk_lt HG.out
              go_wp2
              go_loopg [8, 9] 8 (fun gk v8 v9 wr => ∃ (t : Nat) (A : Option Addr) (c : Nat), t + gk = 8 ∧ v9 = .int .i64 (t : Int) ∧ v8 = .slice A (4 * t) c ∧ Aside0 ((Kd.int .u8).R 5 wr (gh + 1) (fun _ => True) (.slice A (4 * t) c) (outL h.l t)) ∧ Aside0 (Below (gh + 1) wS wr))
              case atStart => exact ⟨0, _, _, rfl, rfl, rfl, ⟨u8lit (base := gh + 1) _ [] (by decide) hgl⟩, ⟨(below_alloc (Below.refl wS.heap.size wS) _).mono hgl⟩⟩
              case round =>
                obtain ⟨t, A, c, ht, rfl, rfl, HO, HBS⟩ := hrel
                by_cases hlt : (t : Int) < 8
                · have ht2 : t < 8 := by omega
                  have HGr : Aside0 (wr.heap[gh]? = some (.cells h.i 28 (0, 0))) := ⟨(HBS.out.block gh (by omega)).trans HG.out⟩
                  have cx := cell_at HGr.out t
                  rw [show h.i = is h.l from rfl, is_at _ _ (by rw [V8.l_length]; omega)] at cx
                  obtain ⟨x, hx⟩ : ∃ x, h.l.getD t 0 = x := ⟨_, rfl⟩
                  rw [hx] at cx
                  have HX := Aside0.mk hx
                  clear hx
                  have HSZ : Aside0 (gh + 1 ≤ wr.heap.size) := ⟨Nat.le_trans hgl HBS.out.size⟩
                  go_wp2
                  go_region_held3 (fun w' => w'.cell? ⟨gh, t, none⟩ = some (.int .i64 x)) (go_keep) ((refine Kd.R_append_rows_step (Kd.int .u8) (w0 := wS) (gh + 1) rfl (.tmp 57) (.tmp 77) 22 5 (.int .u8 0) 1 rfl Try.underlying22 info5 rfl (by decide) (by omega) (.slice A (4 * t) c) (outL h.l t) (word4 x) (some ⟨wr.heap.size, 0, none⟩) 4 4 (fun _ => True) (fun _ => False) rfl rfl (Kd.R_below HO.out (below_alloc (below_drew (Below.refl _ _)) _)) (lit_reads wr.drew (word4 x) (by simp [word4])) (fun _ _ h => h) (fun _ h => h.elim) (fun _ _ => trivial) ((below_alloc (below_drew (Below.refl wr.heap.size wr)) _).mono HSZ.out |> HBS.out.trans) (Nat.le_trans HSZ.out (below_alloc (below_drew (Below.refl wr.heap.size wr)) _).size) (by rw [outL_length]; omega) ?_; intro v9 w9 ho hb hg hat; have m0 : w9.cell? ⟨gh, t, none⟩ = some (.int .i64 x) := (by rw [cell_at ((hb.block gh (by omega)).trans HG.out)]; exact (cell_at HGr.out t).symm.trans cx)))
                  obtain ⟨A9, c9, e9⟩ := Kd.R_slice ho
                  have hl0 : (outL h.l t ++ word4 x).length = 4 * (t + 1) := by rw [List.length_append, outL_length]; simp [word4]; omega
                  rw [hl0] at e9
                  subst e9
                  have ho' : (Kd.int .u8).R 5 w9 (gh + 1) (fun _ => True) (.slice A9 (4 * (t + 1)) c9) (outL h.l (t + 1)) := by rw [outL, HX.out]; exact ho
                  have HO2 := Aside0.mk ho'
                  have HB2 := Aside0.mk hb
                  clear ho ho' hb hg hat hl0
                  go_wp2
                  go_roundg (8 - (t + 1))
                  case measure => omega
                  case rel => exact ⟨t + 1, A9, c9, by omega, by go_num, rfl, HO2, HB2⟩
                · obtain rfl : t = 8 := by omega
                  clear hlt
                  go_wp2
                  go_ret
                  exact ⟨_, rfl, by rw [HD.out]; exact Kd.R_lower HO.out (by omega), HBW.out.trans (HBS.out.mono (by omega))⟩
end Go.Proofs.Ytgfhbkhbnmgogaa.GFnExactHmac.Hand
