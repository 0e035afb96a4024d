import Derived.Test.YtgfhbkhbnmgogaaGFnExactHmacDgst
import Derived.Deep.RegionWith
namespace Go.Proofs.Ytgfhbkhbnmgogaa.GFnExactHmac.Hand
open Go.RowKit Go.Proofs.YtgfhbkhbnmgogaaW.PrintWords Go.Proofs.YtgfhbkhbnmgogaaW.PrintLast Go.Proofs.YtgfhbkhbnmgogaaW.PrintMore
set_option linter.unusedVariables false
set_option linter.unusedSimpArgs false
/-! ### spec.l5Feed (37) -/
theorem stC_facts {w : World} {g : Nat} {h : V8} {r : Value} {m : Int} (hg : w.heap[g]? = some (.cells (stC h.l r m) 32 (0, 0))) :
    (w.cell? ⟨g, 0, none⟩ = some (.int .i64 h.a) ∧ w.cell? ⟨g, 1, none⟩ = some (.int .i64 h.b) ∧ w.cell? ⟨g, 2, none⟩ = some (.int .i64 h.c) ∧ w.cell? ⟨g, 3, none⟩ = some (.int .i64 h.d) ∧ w.cell? ⟨g, 4, none⟩ = some (.int .i64 h.e) ∧ w.cell? ⟨g, 5, none⟩ = some (.int .i64 h.f) ∧ w.cell? ⟨g, 6, none⟩ = some (.int .i64 h.g) ∧ w.cell? ⟨g, 7, none⟩ = some (.int .i64 h.h) ∧ w.cell? ⟨g, 8, none⟩ = some r ∧ w.cell? ⟨g, 9, none⟩ = some (.int .i64 m)) ∧
    (w.frozen? ⟨g, 0, none⟩ = false ∧ w.frozen? ⟨g, 1, none⟩ = false ∧ w.frozen? ⟨g, 2, none⟩ = false ∧ w.frozen? ⟨g, 3, none⟩ = false ∧ w.frozen? ⟨g, 4, none⟩ = false ∧ w.frozen? ⟨g, 5, none⟩ = false ∧ w.frozen? ⟨g, 6, none⟩ = false ∧ w.frozen? ⟨g, 7, none⟩ = false ∧ w.frozen? ⟨g, 8, none⟩ = false ∧ w.frozen? ⟨g, 9, none⟩ = false) :=
  ⟨⟨cell_at hg 0, cell_at hg 1, cell_at hg 2, cell_at hg 3, cell_at hg 4, cell_at hg 5, cell_at hg 6, cell_at hg 7, cell_at hg 8, cell_at hg 9⟩,
   ⟨free_at hg 0, free_at hg 1, free_at hg 2, free_at hg 3, free_at hg 4, free_at hg 5, free_at hg 6, free_at hg 7, free_at hg 8, free_at hg 9⟩⟩
theorem stC_set8 (l : List Int) (r r' : Value) (m : Int) (h : l.length = 8) : (stC l r m).setIfInBounds 8 r' = stC l r' m := by
  apply Array.ext'
  simp [stC, List.set_append, h]
theorem stC_set9 (l : List Int) (r : Value) (m m' : Int) (h : l.length = 8) : (stC l r m).setIfInBounds 9 (.int .i64 m') = stC l r m' := by
  apply Array.ext'
  simp [stC, List.set_append, h]
theorem word_take (b : List Int) (t : Nat) (ht : t < 16) : word (b.take 64) t = word b t := by
  have e : ∀ j : Nat, j < 64 → rd (b.take 64) (j : Int) = rd b (j : Int) := fun j hj => by
    rw [Base.rd_nat, Base.rd_nat, List.getD_eq_getElem?_getD, List.getD_eq_getElem?_getD, List.getElem?_take, if_pos hj]
  have e0 : rd (b.take 64) (4 * (t : Int)) = rd b (4 * (t : Int)) := by have h := e (4 * t) (by omega); rwa [show ((4 * t : Nat) : Int) = 4 * (t : Int) by omega] at h
  have e1 : rd (b.take 64) (4 * (t : Int) + 1) = rd b (4 * (t : Int) + 1) := by have h := e (4 * t + 1) (by omega); rwa [show ((4 * t + 1 : Nat) : Int) = 4 * (t : Int) + 1 by omega] at h
  have e2 : rd (b.take 64) (4 * (t : Int) + 2) = rd b (4 * (t : Int) + 2) := by have h := e (4 * t + 2) (by omega); rwa [show ((4 * t + 2 : Nat) : Int) = 4 * (t : Int) + 2 by omega] at h
  have e3 : rd (b.take 64) (4 * (t : Int) + 3) = rd b (4 * (t : Int) + 3) := by have h := e (4 * t + 3) (by omega); rwa [show ((4 * t + 3 : Nat) : Int) = 4 * (t : Int) + 3 by omega] at h
  unfold word
  rw [e0, e1, e2, e3]
theorem wl_take (b : List Int) : ∀ t, wl (b.take 64) t = wl b t
  | 0 => rfl
  | t + 1 => by
    by_cases h : t < 16
    · rw [wl_lo _ _ h, wl_lo _ _ h, wl_take b t, word_take b t h]
    · rw [wl_hi _ _ h, wl_hi _ _ h, wl_take b t]
theorem rounds_take (b : List Int) (h : V8) : ∀ t, rounds (b.take 64) h t = rounds b h t
  | 0 => rfl
  | t + 1 => by rw [rounds, rounds, rounds_take b h t, wl_take]
theorem blk_take (b : List Int) (h : V8) : blk h (b.take 64) = blk h b := by rw [blk, blk, rounds_take]
theorem RawS.take {w : World} {A : Option Addr} {n k : Nat} {xs : List Int} (h : RawS w A n xs) (hk : k ≤ n) : RawS w A k (xs.take k) := by
  obtain ⟨h1, h2⟩ := h
  refine ⟨by rw [List.length_take, h1]; omega, ?_⟩
  rcases h2 with h0 | ⟨g, o, cur, rfl, hg, ha⟩
  · exact .inl (by omega)
  · refine .inr ⟨g, o, cur, rfl, hg, fun i hi => ?_⟩
    rw [ha i (by omega)]
    simp [List.getElem?_take, hi]
theorem stC_box {w : World} {g : Nat} {h h' : V8} {r : Value} {m : Int} (hg : w.heap[g]? = some (.cells (stC h.l r m) 32 (0, 0))) : (((((((((w.setCell ⟨g, 0, none⟩ (.int .i64 h'.a)).setCell ⟨g, 1, none⟩ (.int .i64 h'.b)).setCell ⟨g, 2, none⟩ (.int .i64 h'.c)).setCell ⟨g, 3, none⟩ (.int .i64 h'.d)).setCell ⟨g, 4, none⟩ (.int .i64 h'.e)).setCell ⟨g, 5, none⟩ (.int .i64 h'.f)).setCell ⟨g, 6, none⟩ (.int .i64 h'.g)).setCell ⟨g, 7, none⟩ (.int .i64 h'.h))).heap[g]? = some (.cells (stC h'.l r m) 32 (0, 0)) := by
  have s : ∀ (W : World) (l : List Int) (i : Nat) (x : Int), i < l.length → W.heap[g]? = some (.cells (stC l r m) 32 (0, 0)) → (W.setCell ⟨g, i, none⟩ (.int .i64 x)).heap[g]? = some (.cells (stC (l.set i x) r m) 32 (0, 0)) := fun W l i x hi h => by rw [heap_set h i _, stC_set _ _ _ _ _ hi]
  exact s _ _ 7 _ (by simp [V8.l]) (s _ _ 6 _ (by simp [V8.l]) (s _ _ 5 _ (by simp [V8.l]) (s _ _ 4 _ (by simp [V8.l]) (s _ _ 3 _ (by simp [V8.l]) (s _ _ 2 _ (by simp [V8.l]) (s _ _ 1 _ (by simp [V8.l]) (s _ h.l 0 _ (by simp [V8.l]) hg)))))))
set_option maxHeartbeats 8000000 in
set_option maxRecDepth 100000 in
theorem sfeedM_calls (H : V8) (Ar : Option Addr) (nr cr : Nat) (rs : List Int) (m : Nat) (Ad : Option Addr) (nd cd : Nat) (ds : List Int) (w : World) (hH : wrapV H = H) (hr : (Kd.int .u8).C w Ar nr rs) (er : rs.length = nr) (hcr : nr ≤ cr) (hd : (Kd.int .u8).C w Ad nd ds) (ed : ds.length = nd) (lr : nr ≤ 100000) (ld : nd ≤ 100000) (lm : m ≤ 100000) :
    Calls Try.prog 37 #[.agg (stC H.l (.slice Ar nr cr) (m : Int)), .slice Ad nd cd] w fun e w' => ∃ (A : Option Addr) (c : Nat), e = .returned (.agg (stC (feedL ((nr + nd) / 64) H (rs ++ ds)).1.l (.slice A (feedL ((nr + nd) / 64) H (rs ++ ds)).2.length c) ((m + nd : Nat) : Int))) ∧ (feedL ((nr + nd) / 64) H (rs ++ ds)).2.length ≤ c ∧ RawM w.heap.size w' A (feedL ((nr + nd) / 64) H (rs ++ ds)).2.length c (feedL ((nr + nd) / 64) H (rs ++ ds)).2 ∧ Below w.heap.size w w' := by
  have HH := Aside0.mk hH
  have HRS := Aside0.mk hr
  have HDS := Aside0.mk hd
  have ER := Aside0.mk er
  have ED := Aside0.mk ed
  have HCR := Aside0.mk hcr
  obtain ⟨F, hF⟩ : ∃ F, feedL ((nr + nd) / 64) H (rs ++ ds) = F := ⟨_, rfl⟩
  rw [hF]
  have HF := Aside0.mk hF
  clear hH hr hd er ed hF hcr
  show Calls Try.prog 37 #[.agg #[.int .i64 H.a, .int .i64 H.b, .int .i64 H.c, .int .i64 H.d, .int .i64 H.e, .int .i64 H.f, .int .i64 H.g, .int .i64 H.h, .slice Ar nr cr, .int .i64 (m : Int)], .slice Ad nd cd] w _
  go_enter Try.func37, Try.ntmps37
  go_upto_region 1 with (fail)
  obtain ⟨wB, hwB⟩ : ∃ x, (w.alloc (.cells #[.int .i64 H.a, .int .i64 H.b, .int .i64 H.c, .int .i64 H.d, .int .i64 H.e, .int .i64 H.f, .int .i64 H.g, .int .i64 H.h, .slice Ar nr cr, .int .i64 (m : Int)] 32)).alloc (.cells #[.int .i64 0, .int .i64 0, .int .i64 0, .int .i64 0, .int .i64 0, .int .i64 0, .int .i64 0, .int .i64 0, .slice none 0 0, .int .i64 0] 32) = x := ⟨_, rfl⟩
  rw [hwB]
  have HB0 : Aside0 (Below w.heap.size w wB) := ⟨by rw [← hwB]; exact below_alloc (below_alloc (Below.refl _ _) _) _⟩
  have HSB : Aside0 (wB.heap.size = w.heap.size + 2) := ⟨by rw [← hwB, size_alloc, size_alloc]⟩
  have HBX : Aside0 (wB.heap[w.heap.size]? = some (.cells (stC H.l (.slice Ar nr cr) (m : Int)) 32 (0, 0))) := ⟨by rw [← hwB]; exact blk_alloc (heap_alloc_last _ _) _⟩
  have HZX : Aside0 (wB.heap[w.heap.size + 1]? = some (.cells (stC (List.replicate 8 0) (.slice none 0 0) 0) 32 (0, 0))) := ⟨by rw [← hwB]; exact alloc_at (size_alloc _ _) _⟩
  clear hwB
  have hm8 : wB.cell? ⟨w.heap.size, 8, none⟩ = some (.slice Ar nr cr) := cell_at HBX.out 8
  have HL1 : Aside0 (spec_l1Bytes.f rs = some rs) := ⟨by unfold spec_l1Bytes.f; simp; rw [ER.out]; omega⟩
  go_wp2_with fail
  have hl1 := spec_l1Bytes.calls Ar cr rs rs wB (by rw [ER.out]; exact Kd.C_below HRS.out HB0.out) (by rw [ER.out]; exact HCR.out) HL1.out
  rw [ER.out] at hl1
  refine hl1.mono ?_
  clear hl1
  rintro e w1 ⟨v1, rfl, hr1, hb1⟩
  obtain ⟨A1, c1, e1⟩ := Kd.R_slice hr1
  rw [ER.out] at e1
  subst e1
  have HR1 := Aside0.mk hr1
  have HB1 := Aside0.mk hb1
  clear hr1 hb1 hm8
  go_wp2_with ((with_reducible refine gate_builtin (b := .append) (xs := #[.tmp 8, .tmp 9]) rfl ?_); refine halt_ ?_)
  unfold Halt_
  at_builtin
  refine Kd.R_append_rows (Kd.int .u8) (w0 := wB) wB.heap.size rfl (.tmp 8) (.tmp 9) 22 5 (.int .u8 0) 1 rfl Try.underlying22 info5 rfl (by decide) (by omega) (.slice A1 nr c1) rs ds Ad nd cd (fun _ => True) (fun _ => False) rfl rfl HR1.out (Kd.C_below HDS.out (below_step HB0.out HB1.out)) (fun _ _ h => h) (fun _ h => h.elim) (fun _ _ => trivial) HB1.out HB1.out.size (by rw [ER.out]; omega) ?_
  intro v5 w5 ho hb hg hat
  obtain ⟨A5, c5, e5⟩ := Kd.R_slice ho
  rw [List.length_append, ER.out, ED.out] at e5
  subst e5
  have hnc5 : nr + nd ≤ c5 := (Kd.R_reads' ho).2.1
  have HRW := Aside0.mk (RawB.of_R (n0 := w.heap.size) ho (by rw [List.length_append, ER.out, ED.out]) (by have := HSB.out; omega))
  have HB5 := Aside0.mk hb
  have HBX5 := Aside0.mk (blk_below HBX.out hb)
  have HZX5 := Aside0.mk (blk_below HZX.out hb)
  obtain ⟨⟨_, _, _, _, _, _, _, _, _, q9⟩, ⟨_, _, _, _, _, _, _, _, _, f9⟩⟩ := stC_facts HBX5.out
  have hsum : IntKind.i64.wrap ((m : Int) + (nd : Int)) = ((m + nd : Nat) : Int) := (i64_w _).trans (by rw [Base.w64] <;> omega)
  clear ho hb hg hat
  go_wp2
  clear q9 f9 hsum
  obtain ⟨i5, hi5, hi5s⟩ := Option.map_eq_some_iff.1 info5
  have HCUT : Aside0 (∀ (A : Option Addr) (n c : Nat), 64 ≤ n → ∀ W : World, (Instr.slice 22 (.slice A n c) (some (.int .i64 64)) none none).run Try.prog W = .ok (.slice (if c = 64 then A else A.map (·.add 64)) (n - 64) (c - 64)) W) := ⟨fun A n c h => cut_from (P := Try.prog) 22 5 .i64 Try.underlying22 hi5 1 (by simp only [Prod.mk.injEq] at hi5s; exact hi5s.2.1) A n c 64 (by omega) (by omega)⟩
  have HCT : Aside0 (∀ (A : Option Addr) (n c : Nat), 64 ≤ n → n ≤ c → ∀ W : World, (Instr.slice 22 (.slice A n c) none (some (.int .i64 64)) none).run Try.prog W = .ok (.slice A 64 c) W) := ⟨fun A n c h hc => cut_to (P := Try.prog) 22 5 .i64 Try.underlying22 hi5 A n c 64 (by omega) (by omega) hc⟩
  clear hi5 hi5s
  go_loopg [5] ((nr + nd) / 64) (fun gk v5 wr => ∃ (h : V8) (cur : List Int) (A : Option Addr) (n c : Nat), v5 = .slice A n c ∧ n / 64 = gk ∧ n ≤ 200000 ∧ Aside0 (n ≤ c) ∧ Aside0 (wrapV h = h) ∧ Aside0 (feedL gk h cur = F) ∧ Aside0 (RawS wr A n cur) ∧ Aside0 (Below w.heap.size w wr) ∧ Aside0 (wr.heap[w.heap.size]? = some (.cells (stC h.l (.slice Ar nr cr) ((m + nd : Nat) : Int)) 32 (0, 0))) ∧ Aside0 (wr.heap[w.heap.size + 1]? = some (.cells (stC (List.replicate 8 0) (.slice none 0 0) 0) 32 (0, 0))))
  case atStart =>
    refine ⟨H, _, A5, _, c5, rfl, rfl, by omega, ⟨hnc5⟩, HH, HF, ⟨(RawS.of_B HRW.out).move (fun g cs hg => ?_)⟩, ⟨below_set (below_step HB0.out HB5.out) (Nat.le_refl _)⟩, ⟨?_⟩, ⟨(heap_other _ _ _ _ _ (by omega)).trans HZX5.out⟩⟩
    · rw [heap_other _ _ _ _ _ (fun e => ?_)]
      · exact hg
      · subst e
        rw [HBX5.out] at hg
        injection hg with hg
        injection hg with h1 h2
        exact absurd h2 (by decide)
    · refine (heap_set HBX5.out _ _).trans ?_
      rw [stC_set9 _ _ _ _ (V8.l_length _)]
      rfl
  case round =>
    clear HRW HB5 HBX5 HZX5 HBX HZX HR1 HB1 HF HH
    obtain ⟨h, cur, A, n, c, rfl, hgk, hn2, HNC, HH, HF, HRW, HB, HBX, HZX⟩ := hrel
    by_cases hlt : (64 : Int) ≤ (n : Int)
    · obtain ⟨k, rfl⟩ : ∃ k, gk = k + 1 := ⟨gk - 1, by omega⟩
      obtain ⟨⟨q0, q1, q2, q3, q4, q5, q6, q7, _, _⟩, _⟩ := stC_facts HBX.out
      have hcut := HCUT.out A n c (by omega)
      have hct := HCT.out A n c (by omega) HNC.out
      obtain ⟨A2, hA2⟩ : ∃ A2, (if c = 64 then A else A.map (·.add 64)) = A2 := ⟨_, rfl⟩
      rw [hA2] at hcut
      have HA2 := Aside0.mk hA2
      clear hA2
      have hbc := block_calls h A 64 c (cur.take 64) wr.drew ((HRW.out.take (by omega)).C (by omega)) (by omega) (HRW.out.take (k := 64) (by omega)).1 HH.out
      rw [blk_take] at hbc
      obtain ⟨h2, hh2⟩ : ∃ x, blk h cur = x := ⟨_, rfl⟩
      rw [hh2] at hbc
      unfold V8.i at hbc
      have HBC := Aside0.mk hbc
      have HH2 := Aside0.mk hh2
      clear hbc hh2
      go_wp2
      go_region_with ((go_at_call 59; refine HBC.out.mono ?_; rintro e w2 ⟨rfl, hb2⟩; obtain ⟨⟨r0, r1, r2, r3, r4, r5, r6, r7, _, _⟩, ⟨t0, t1, t2, t3, t4, t5, t6, t7, _, _⟩⟩ := stC_facts (blk_below (blk_drew HBX.out) hb2)))
      go_wp2
      have HBX2 := Aside0.mk (stC_box (h' := h2) (blk_below (blk_drew HBX.out) hb2))
      go_roundg k
      case measure => omega
      case rel =>
        have hk : ∀ j, j ≠ w.heap.size → ((((((((w2.setCell ⟨w.heap.size, 0, none⟩ (.int .i64 h2.a)).setCell ⟨w.heap.size, 1, none⟩ (.int .i64 h2.b)).setCell ⟨w.heap.size, 2, none⟩ (.int .i64 h2.c)).setCell ⟨w.heap.size, 3, none⟩ (.int .i64 h2.d)).setCell ⟨w.heap.size, 4, none⟩ (.int .i64 h2.e)).setCell ⟨w.heap.size, 5, none⟩ (.int .i64 h2.f)).setCell ⟨w.heap.size, 6, none⟩ (.int .i64 h2.g)).setCell ⟨w.heap.size, 7, none⟩ (.int .i64 h2.h)).heap[j]? = w2.heap[j]? := fun j hj => by
          rw [heap_other _ _ _ _ _ hj, heap_other _ _ _ _ _ hj, heap_other _ _ _ _ _ hj, heap_other _ _ _ _ _ hj, heap_other _ _ _ _ _ hj, heap_other _ _ _ _ _ hj, heap_other _ _ _ _ _ hj, heap_other _ _ _ _ _ hj]
        refine ⟨h2, cur.drop 64, _, _, _, rfl, by omega, by omega, ⟨by have := HNC.out; omega⟩, ⟨by rw [← HH2.out]; exact wrap_blk _ _⟩, ⟨by rw [← HH2.out]; exact HF.out⟩, ⟨?_⟩, ⟨below_set (below_set (below_set (below_set (below_set (below_set (below_set (below_set (below_step (below_drew HB.out) hb2) (Nat.le_refl _)) (Nat.le_refl _)) (Nat.le_refl _)) (Nat.le_refl _)) (Nat.le_refl _)) (Nat.le_refl _)) (Nat.le_refl _)) (Nat.le_refl _)⟩, HBX2, ⟨(hk _ (by omega)).trans (blk_below (blk_drew HZX.out) hb2)⟩⟩
        rw [← HA2.out]
        refine (HRW.out.drop (k := 64) (by omega) (by omega) HNC.out).move (fun g cs hg => ?_)
        rw [hk g (fun e => ?_)]
        · exact blk_below (blk_drew hg) hb2
        · subst e
          rw [HBX.out] at hg
          injection hg with hg
          injection hg with h1 h2
          exact absurd h2 (by decide)
    · obtain rfl : gk = 0 := by omega
      obtain rfl : (h, cur) = F := HF.out
      clear hlt
      have HLC : Aside0 (cur.length = n) := ⟨HRW.out.1⟩
      have HL2 : Aside0 (spec_l1Bytes.f cur = some cur) := ⟨by unfold spec_l1Bytes.f; simp; rw [HLC.out]; omega⟩
      go_wp2_with fail
      have hl1 := spec_l1Bytes.calls A c cur cur wr (by rw [HLC.out]; exact HRW.out.C (by omega)) (by rw [HLC.out]; exact HNC.out) HL2.out
      rw [HLC.out] at hl1
      refine hl1.mono ?_
      clear hl1
      rintro e w2 ⟨v2, rfl, hr2, hb2⟩
      obtain ⟨A2, c2, e2⟩ := Kd.R_slice hr2
      rw [HLC.out] at e2
      subst e2
      have HBX2 := Aside0.mk (blk_below HBX.out hb2)
      have HZX2 := Aside0.mk (blk_below HZX.out hb2)
      have HSZ : Aside0 (w.heap.size + 1 < wr.heap.size) := ⟨blk_lt HZX.out⟩
      have HN2 : Aside0 (n ≤ c2) := ⟨(Kd.R_reads' hr2).2.1⟩
      have HRW2 := Aside0.mk (RawM.of_R (n0 := w.heap.size) hr2 HLC.out HSZ.out)
      have HB2 := Aside0.mk (below_step HB.out hb2)
      clear hr2 hb2
      obtain ⟨⟨_, _, _, _, _, _, _, _, p8, _⟩, ⟨_, _, _, _, _, _, _, _, f8, _⟩⟩ := stC_facts HBX2.out
      go_wp2_with (first | ((with_reducible refine gate_dst (N := 31) rfl ?_); refine load_ev (t := 32) (x := .tmp 2) (g := w.heap.size) rfl rfl rfl Try.underlying32 rfl (heap_set HBX2.out 8 _) (by rw [stC_set8 _ _ _ _ (V8.l_length _), stC_size]; kernel_rfl) ?_) | ((with_reducible refine gate_store (t := 32) (p := 4) (v := .tmp 31) rfl ?_); refine halt_ ?_))
      unfold Halt_
      rw [stC_set8 _ _ _ _ (V8.l_length _)]
      refine store_row (t := 32) (p := 4) (y := .tmp 31) (g := w.heap.size + 1) rfl rfl rfl rfl rfl ((heap_other _ _ _ _ _ (by omega)).trans HZX2.out) (by rw [stC_size]; kernel_rfl) (by rw [stC_size, stC_size]; rfl) (stC_one _ _ _ _ _) ?_
      intro w6 hw6 ho6 hB6
      go_wp2
      refine ret_cell rfl Try.underlying32 rfl (by rw [stC_size]; kernel_rfl) rfl hw6 rfl ?_
      have hlen := HLC.out
      refine ⟨A2, c2, by rw [hlen], by rw [hlen]; exact HN2.out, ?_, (below_set HB2.out (Nat.le_refl _)).trans (hB6 _ (by omega))⟩
      rw [hlen]
      refine HRW2.out.move (fun g cs hg => ?_)
      have g1 : g ≠ w.heap.size := fun e => by
        subst e
        rw [HBX2.out] at hg
        injection hg with hg
        injection hg with h1 h2
        exact absurd h2 (by decide)
      have g2 : g ≠ w.heap.size + 1 := fun e => by
        subst e
        rw [HZX2.out] at hg
        injection hg with hg
        injection hg with h1 h2
        exact absurd h2 (by decide)
      rw [ho6 g g2, heap_other _ _ _ _ _ g1]
      exact hg
theorem sfeed_calls (H : V8) (Ar : Option Addr) (nr cr : Nat) (rs : List Int) (m : Nat) (Ad : Option Addr) (nd cd : Nat) (ds : List Int) (w : World) (hH : wrapV H = H) (hr : (Kd.int .u8).C w Ar nr rs) (er : rs.length = nr) (hcr : nr ≤ cr) (hd : (Kd.int .u8).C w Ad nd ds) (ed : ds.length = nd) (lr : nr ≤ 100000) (ld : nd ≤ 100000) (lm : m ≤ 100000) :
    Calls Try.prog 37 #[.agg (stC H.l (.slice Ar nr cr) (m : Int)), .slice Ad nd cd] w fun e w' => ∃ (A : Option Addr) (c : Nat), e = .returned (.agg (stC (feedL ((nr + nd) / 64) H (rs ++ ds)).1.l (.slice A (feedL ((nr + nd) / 64) H (rs ++ ds)).2.length c) ((m + nd : Nat) : Int))) ∧ (feedL ((nr + nd) / 64) H (rs ++ ds)).2.length ≤ c ∧ RawB w.heap.size w' A (feedL ((nr + nd) / 64) H (rs ++ ds)).2.length (feedL ((nr + nd) / 64) H (rs ++ ds)).2 ∧ Below w.heap.size w w' := by
  refine (sfeedM_calls H Ar nr cr rs m Ad nd cd ds w hH hr er hcr hd ed lr ld lm).mono ?_
  rintro e w' ⟨A, c, rfl, hc, h, hb⟩
  exact ⟨A, c, rfl, hc, h.B, hb⟩
end Go.Proofs.Ytgfhbkhbnmgogaa.GFnExactHmac.Hand
