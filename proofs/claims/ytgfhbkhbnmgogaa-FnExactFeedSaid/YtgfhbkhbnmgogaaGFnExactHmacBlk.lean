import Derived.Test.YtgfhbkhbnmgogaaGFnExactHmacShaK
namespace Go.Proofs.Ytgfhbkhbnmgogaa.GFnExactHmac.Hand
open Go.RowKit Go.Proofs.YtgfhbkhbnmgogaaW.PrintWords Go.Proofs.YtgfhbkhbnmgogaaW.PrintLast Go.Proofs.YtgfhbkhbnmgogaaW.PrintMore
set_option linter.unusedVariables false
set_option linter.unusedSimpArgs false
theorem turn_calls (x n : Int) (w : World) (h0 : 0 ≤ n) (h1 : n ≤ 32) : Calls Try.prog 68 #[.int .u32 x, .int .i64 n] w fun e w' => e = .returned (.int .u32 (tn x n)) ∧ ∃ k, w' = w.drewN k := by
  refine (spec_l5Turn.calls x n (tn x n) w (spec_tn x n h0 h1)).mono ?_
  rintro e w' ⟨rfl, k, rfl⟩
  exact ⟨rfl, k, rfl⟩
theorem turn_quiet (x n : Int) (w : World) (p q : Nat) (h0 : 0 ≤ n) (h1 : n ≤ 32) : Calls Try.prog 68 #[.int .u32 x, .int .i64 n] (w.drewN (p + q)) fun e w' => e = .returned (.int .u32 (tn x n)) ∧ ∃ k, w' = w.drewN (p + k) := by
  refine (turn_calls x n _ h0 h1).mono ?_
  rintro e w' ⟨rfl, k, rfl⟩
  exact ⟨rfl, q + k, by rw [World.drewN_drewN, Nat.add_assoc]⟩
theorem V8.u_one (v : V8) : v.u.all (·.oneCell') = true := by simp [V8.u, Value.oneCell']
theorem V8.i_one (v : V8) : v.i.all (·.oneCell') = true := by simp [V8.i, Value.oneCell']
/-- The address of a slice that can be read bears no spot. -/
theorem addr_plain {w : World} {ad : Addr} {v : Value} (h : w.cell? (ad.add 0) = some v) : ∃ g o, ad = ⟨g, o, none⟩ := by
  obtain ⟨g, o, sp⟩ := ad
  cases sp with
  | none => exact ⟨g, o, rfl⟩
  | some s =>
    have e : (⟨g, o, some s⟩ : Addr).add 0 = ⟨g, o, some s⟩ := by simp [Addr.add]
    rw [e] at h
    simp [World.cell?] at h
    split at h <;> simp at h
set_option maxHeartbeats 8000000 in
set_option maxRecDepth 100000 in
theorem block_calls (H : V8) (A : Option Addr) (n c : Nat) (b : List Int) (w : World) (hb : Kd.C (Kd.int .u8) w A n b) (hn : 64 ≤ n) (hbl : b.length = n) (hH : wrapV H = H) :
    Calls Try.prog 59 #[.agg H.i, .slice A n c] w fun e w' => e = .returned (.agg (blk H b).i) ∧ Below w.heap.size w w' := by
  obtain ⟨adb, hadb, hcb⟩ := Kd.at_int hb 0 (by omega) (by omega)
  obtain ⟨gb, ob, rfl⟩ := addr_plain hcb
  subst hadb
  clear hcb
  have HBB := Aside0.mk hb
  have HBL := Aside0.mk hbl
  have HR := Aside0.mk hH
  clear hb hbl hH
  unfold V8.i
  go_enter Try.func59, Try.ntmps59
  go_wp2_with (first | (refine ev_build69 rfl rfl ?_) | (refine ev_alloc69 rfl rfl ?_) | (refine ev_store69 rfl rfl rfl rfl (c' := Z64) (l := List.replicate 64 0) rfl rfl (by simp) ?_))
  go_loopg [6] 16 (fun gk v6 wr => ∃ t : Nat, t + gk = 16 ∧ v6 = .int .i64 (t : Int) ∧ Aside0 (wr.heap[w.heap.size]? = some (.cells H.i 28 (0, 0))) ∧ Aside0 (wr.heap[w.heap.size + 1]? = some (.cells (is (List.replicate 8 0)) 28 (0, 0))) ∧ Aside0 (wr.heap[w.heap.size + 2]? = some (.cells (us (wl b t)) 69 (0, 0))) ∧ Aside0 (Below w.heap.size w wr) ∧ Aside0 (wr.heap.size = w.heap.size + 3))
  case atStart =>
    exact ⟨0, rfl, rfl, ⟨blk_alloc (blk_alloc (heap_alloc_last _ _) _) _⟩, ⟨blk_alloc (alloc_at (by rw [size_alloc]) _) _⟩, ⟨alloc_at (by rw [size_alloc, size_alloc]) _⟩, ⟨below_alloc (below_alloc (below_alloc (Below.refl _ _) _) _) _⟩, ⟨by rw [size_alloc, size_alloc, size_alloc]⟩⟩
  case round =>
    obtain ⟨t, ht, rfl, HH, HZ, HW, HB, HS⟩ := hrel
    by_cases hlt : (t : Int) < 16
    · -- [[
      obtain ⟨ad, hA, c0⟩ := Kd.at_int HBB.out ((4 * t : Nat) : Int) (by omega) (by omega)
      cases hA
      obtain ⟨ad1, hA1, c1⟩ := Kd.at_int HBB.out ((4 * t + 1 : Nat) : Int) (by omega) (by omega)
      cases hA1
      obtain ⟨ad2, hA2, c2⟩ := Kd.at_int HBB.out ((4 * t + 2 : Nat) : Int) (by omega) (by omega)
      cases hA2
      obtain ⟨ad3, hA3, c3⟩ := Kd.at_int HBB.out ((4 * t + 3 : Nat) : Int) (by omega) (by omega)
      cases hA3
      replace c0 := (HB.out.cell (World.block_lt_of_cell? w _ c0)).trans c0
      replace c1 := (HB.out.cell (World.block_lt_of_cell? w _ c1)).trans c1
      replace c2 := (HB.out.cell (World.block_lt_of_cell? w _ c2)).trans c2
      replace c3 := (HB.out.cell (World.block_lt_of_cell? w _ c3)).trans c3
      rw [Int.toNat_natCast] at c0 c1 c2 c3
      rw [Addr.add_mid] at c0 c1 c2 c3
      obtain ⟨x0, h0⟩ : ∃ x, rd b ((4 * t : Nat) : Int) = x := ⟨_, rfl⟩
      obtain ⟨x1, h1⟩ : ∃ x, rd b ((4 * t + 1 : Nat) : Int) = x := ⟨_, rfl⟩
      obtain ⟨x2, h2⟩ : ∃ x, rd b ((4 * t + 2 : Nat) : Int) = x := ⟨_, rfl⟩
      obtain ⟨x3, h3⟩ : ∃ x, rd b ((4 * t + 3 : Nat) : Int) = x := ⟨_, rfl⟩
      rw [h0] at c0
      rw [h1] at c1
      rw [h2] at c2
      rw [h3] at c3
      have HX : Aside0 (word b t = Go.bits .or .u32 (Go.bits .or .u32 (Go.bits .or .u32 (IntKind.u32.wrap (IntKind.u32.wrap x0 * 16777216)) (IntKind.u32.wrap (IntKind.u32.wrap x1 * 65536))) (IntKind.u32.wrap (IntKind.u32.wrap x2 * 256))) (IntKind.u32.wrap x3)) := ⟨by rw [← h3, ← h2, ← h1, ← h0]; rfl⟩
      clear h0 h1 h2 h3
      have cw := cell_at HW.out t
      rw [us_at _ _ (by rw [wl_length]; omega)] at cw
      have cf := free_at HW.out t
      obtain ⟨y, hy⟩ : ∃ y, (wl b t).getD t 0 = y := ⟨_, rfl⟩
      rw [hy] at cw
      clear hy
      go_wp2
      go_region
      go_wp2
      go_roundg (16 - (t + 1))
      case measure => omega
      case rel =>
        refine ⟨t + 1, by omega, by go_num, ⟨(heap_other _ _ _ _ _ (by omega)).trans HH.out⟩, ⟨(heap_other _ _ _ _ _ (by omega)).trans HZ.out⟩, ⟨?_⟩, ⟨below_drew (below_set HB.out (by omega))⟩, ⟨(size_set _ _ _).trans HS.out⟩⟩
        refine (heap_set HW.out _ _).trans ?_
        rw [us_set, wl, if_pos (by omega), HX.out]
        rfl
      -- ]]
    · obtain rfl : t = 16 := by omega
      go_wp2
      clear hlt
      go_loopg [7] 48 (fun gk v7 wr => ∃ t : Nat, t + gk = 48 ∧ v7 = .int .i64 ((t + 16 : Nat) : Int) ∧ Aside0 (wr.heap[w.heap.size]? = some (.cells H.i 28 (0, 0))) ∧ Aside0 (wr.heap[w.heap.size + 1]? = some (.cells (is (List.replicate 8 0)) 28 (0, 0))) ∧ Aside0 (wr.heap[w.heap.size + 2]? = some (.cells (us (wl b (t + 16))) 69 (0, 0))) ∧ Aside0 (Below w.heap.size w wr) ∧ Aside0 (wr.heap.size = w.heap.size + 3))
      case atStart => exact ⟨0, rfl, rfl, HH, HZ, HW, HB, HS⟩
      case round =>
        clear HH HZ HW HB HS
        obtain ⟨t, ht2, rfl, HH, HZ, HW, HB, HS⟩ := hrel
        by_cases hlt : ((t + 16 : Nat) : Int) < 64
        · -- [[
          have hw : ∀ j, j < 64 → wr.cell? ⟨w.heap.size + 1 + 1, j, none⟩ = some (.int .u32 ((wl b (t + 16)).getD j 0)) := fun j hj => by
            have := cell_at HW.out j
            rwa [us_at _ _ (by rw [wl_length]; omega)] at this
          have cx := hw (t + 1) (by omega)
          have cy := hw (t + 14) (by omega)
          have c7 := hw (t + 9) (by omega)
          have c16 := hw t (by omega)
          have cw := hw (t + 16) (by omega)
          have cf := free_at HW.out (t + 16)
          obtain ⟨x, hx⟩ : ∃ y, (wl b (t + 16)).getD (t + 1) 0 = y := ⟨_, rfl⟩
          obtain ⟨y, hy⟩ : ∃ y, (wl b (t + 16)).getD (t + 14) 0 = y := ⟨_, rfl⟩
          obtain ⟨x7, hx7⟩ : ∃ y, (wl b (t + 16)).getD (t + 9) 0 = y := ⟨_, rfl⟩
          obtain ⟨x16, hx16⟩ : ∃ y, (wl b (t + 16)).getD t 0 = y := ⟨_, rfl⟩
          obtain ⟨z, hz⟩ : ∃ y, (wl b (t + 16)).getD (t + 16) 0 = y := ⟨_, rfl⟩
          rw [hx] at cx
          rw [hy] at cy
          rw [hx7] at c7
          rw [hx16] at c16
          rw [hz] at cw
          have HM : Aside0 (mix (wl b (t + 16)) (t + 16) = (ss1 y + x7 + ss0 x + x16) % 4294967296) := ⟨by rw [← hx, ← hy, ← hx7, ← hx16]; rfl⟩
          clear hw hx hy hx7 hx16 hz
          go_wp2
          go_quiet (fail)
          go_wp2_with fail
          refine (turn_calls _ _ _ (by decide) (by decide)).mono ?_
          rintro e w' ⟨rfl, k1, rfl⟩
          go_wp2_with fail
          refine (turn_calls _ _ _ (by decide) (by decide)).mono ?_
          rintro e w' ⟨rfl, k2, rfl⟩
          go_wp2_with fail
          refine (turn_calls _ _ _ (by decide) (by decide)).mono ?_
          rintro e w' ⟨rfl, k3, rfl⟩
          go_wp2_with fail
          refine (turn_calls _ _ _ (by decide) (by decide)).mono ?_
          rintro e w' ⟨rfl, k4, rfl⟩
          go_wp2
          go_region
          go_wp2
          go_roundg (48 - (t + 1))
          case measure => omega
          case rel =>
            refine ⟨t + 1, by omega, by go_num, ⟨(heap_other _ _ _ _ _ (by omega)).trans HH.out⟩, ⟨(heap_other _ _ _ _ _ (by omega)).trans HZ.out⟩, ⟨?_⟩, ⟨below_set (pw_below_drewN HB.out _) (by omega)⟩, ⟨(size_set _ _ _).trans HS.out⟩⟩
            refine (heap_set HW.out _ _).trans ?_
            rw [us_set, show t + 1 + 16 = (t + 16) + 1 by omega, wl_hi b (t + 16) (by omega), HM.out]
            rfl
          -- ]]
        · obtain rfl : t = 48 := by omega
          clear hlt
          go_wp2_with fail
          refine (keys_calls _).mono ?_
          rintro e w1 ⟨rfl, hB1⟩
          have HH1 := Aside0.mk (blk_below HH.out hB1)
          have HZ1 := Aside0.mk (blk_below HZ.out hB1)
          have HW1 := Aside0.mk (blk_below HW.out hB1)
          have hs1 := hB1.size
          rw [HS.out] at hs1
          have HB1 := Aside0.mk (below_step HB.out hB1)
          clear HH HZ HW HB HS hB1
          obtain ⟨kb, hgk⟩ : ∃ g, w1.heap.size = g := ⟨_, rfl⟩
          rw [hgk] at hs1
          have HG := Aside0.mk hgk
          go_wp2_with (first | (refine ev_alloc69 rfl rfl ?_) | (refine ev_store69 rfl rfl rfl rfl (c' := us keysL) rfl rfl rfl ?_))
          go_loopg [14] 8 (fun gk2 v14 wr => ∃ t : Nat, t + gk2 = 8 ∧ v14 = .int .i64 (t : Int) ∧ Aside0 (wr.heap[w.heap.size]? = some (.cells H.i 28 (0, 0))) ∧ Aside0 (wr.heap[w.heap.size + 1]? = some (.cells (is (List.replicate 8 0)) 28 (0, 0))) ∧ Aside0 (wr.heap[w.heap.size + 2]? = some (.cells (us (wl b 64)) 69 (0, 0))) ∧ Aside0 (wr.heap[kb]? = some (.cells (us keysL) 69 (0, 0))) ∧ Aside0 (wr.heap[kb + 1]? = some (.cells (us (fillL (fun i => H.l.getD i 0 % 4294967296) 8 t)) 67 (0, 0))) ∧ Aside0 (Below w.heap.size w wr) ∧ Aside0 (wr.heap.size = kb + 2))
          case atStart =>
            exact ⟨0, rfl, rfl, ⟨blk_alloc (blk_alloc HH1.out _) _⟩, ⟨blk_alloc (blk_alloc HZ1.out _) _⟩, ⟨blk_alloc (blk_alloc HW1.out _) _⟩, ⟨blk_alloc (alloc_at HG.out _) _⟩, ⟨alloc_at (by rw [size_alloc, HG.out]) _⟩, ⟨below_alloc (below_alloc HB1.out _) _⟩, ⟨by rw [size_alloc, size_alloc, HG.out]⟩⟩
          case round =>
            clear HH1 HZ1 HW1 HB1
            obtain ⟨t, ht3, rfl, HH, HZ, HW, HK, HV, HB, HS⟩ := hrel
            by_cases hlt : (t : Int) < 8
            · -- [[
              have ch := cell_at HH.out t
              rw [show H.i = is H.l from rfl, is_at _ _ (by rw [V8.l_length]; omega)] at ch
              have cw := cell_at HV.out t
              rw [us_at _ _ (by rw [fillL_length]; omega)] at cw
              have cf := free_at HV.out t
              go_wp2
              go_roundg (8 - (t + 1))
              case measure => omega
              case rel =>
                refine ⟨t + 1, by omega, by go_num, ⟨(heap_other _ _ _ _ _ (by omega)).trans HH.out⟩, ⟨(heap_other _ _ _ _ _ (by omega)).trans HZ.out⟩, ⟨(heap_other _ _ _ _ _ (by omega)).trans HW.out⟩, ⟨(heap_other _ _ _ _ _ (by omega)).trans HK.out⟩, ⟨?_⟩, ⟨below_set HB.out (by omega)⟩, ⟨(size_set _ _ _).trans HS.out⟩⟩
                refine (heap_set HV.out _ _).trans ?_
                rw [us_set]
                rfl
              -- ]]
            · obtain rfl : t = 8 := by omega
              clear hlt
              have HV' : Aside0 (wr.heap[kb + 1]? = some (.cells (wrapV H).u 67 (0, 0))) := HV
              rw [HR.out] at HV'
              clear HV
              go_wp2
              go_loopg [15] 64 (fun gk3 v15 wr => ∃ t : Nat, t + gk3 = 64 ∧ v15 = .int .i64 (t : Int) ∧ Aside0 (wr.heap[w.heap.size]? = some (.cells H.i 28 (0, 0))) ∧ Aside0 (wr.heap[w.heap.size + 1]? = some (.cells (is (List.replicate 8 0)) 28 (0, 0))) ∧ Aside0 (wr.heap[w.heap.size + 2]? = some (.cells (us (wl b 64)) 69 (0, 0))) ∧ Aside0 (wr.heap[kb]? = some (.cells (us keysL) 69 (0, 0))) ∧ Aside0 (wr.heap[kb + 1]? = some (.cells (rounds b H t).u 67 (0, 0))) ∧ Aside0 (Below w.heap.size w wr) ∧ Aside0 (kb + 2 ≤ wr.heap.size))
              case atStart => exact ⟨0, rfl, rfl, HH, HZ, HW, HK, HV', HB, ⟨by rw [HS.out]; omega⟩⟩
              case round =>
                clear HH HZ HW HK HV' HB HS
                obtain ⟨t, ht4, rfl, HH, HZ, HW, HK, HV, HB, HS⟩ := hrel
                by_cases hlt : (t : Int) < 64
                · -- [[
                  obtain ⟨V, hV⟩ : ∃ V, rounds b H t = V := ⟨_, rfl⟩
                  have HVE := Aside0.mk hV
                  rw [hV] at HV
                  clear hV
                  have ca := cell_at HV.out 0
                  have cb := cell_at HV.out 1
                  have cc := cell_at HV.out 2
                  have cd := cell_at HV.out 3
                  have ce := cell_at HV.out 4
                  have cf := cell_at HV.out 5
                  have cg := cell_at HV.out 6
                  have ch := cell_at HV.out 7
                  have fa := free_at HV.out 0
                  have fb := free_at HV.out 1
                  have fc := free_at HV.out 2
                  have fd := free_at HV.out 3
                  have fe := free_at HV.out 4
                  have ff := free_at HV.out 5
                  have fg := free_at HV.out 6
                  have fh := free_at HV.out 7
                  replace ca : wr.cell? ⟨kb + 1, 0, none⟩ = some (.int .u32 V.a) := ca
                  replace cb : wr.cell? ⟨kb + 1, 1, none⟩ = some (.int .u32 V.b) := cb
                  replace cc : wr.cell? ⟨kb + 1, 2, none⟩ = some (.int .u32 V.c) := cc
                  replace cd : wr.cell? ⟨kb + 1, 3, none⟩ = some (.int .u32 V.d) := cd
                  replace ce : wr.cell? ⟨kb + 1, 4, none⟩ = some (.int .u32 V.e) := ce
                  replace cf : wr.cell? ⟨kb + 1, 5, none⟩ = some (.int .u32 V.f) := cf
                  replace cg : wr.cell? ⟨kb + 1, 6, none⟩ = some (.int .u32 V.g) := cg
                  replace ch : wr.cell? ⟨kb + 1, 7, none⟩ = some (.int .u32 V.h) := ch
                  obtain ⟨va, vb, vc, vd, ve, vf, vg, vh⟩ := V
                  have ck := cell_at HK.out t
                  rw [us_at _ _ (show t < 64 by omega)] at ck
                  have cw := cell_at HW.out t
                  rw [us_at _ _ (by rw [wl_length]; omega)] at cw
                  obtain ⟨kt, hkt⟩ : ∃ y, keysL.getD t 0 = y := ⟨_, rfl⟩
                  obtain ⟨wt, hwt⟩ : ∃ y, (wl b 64).getD t 0 = y := ⟨_, rfl⟩
                  rw [hkt] at ck
                  rw [hwt] at cw
                  have HKT := Aside0.mk hkt
                  have HWT := Aside0.mk hwt
                  clear hkt hwt
                  go_wp2
                  go_quiet (fail)
                  go_wp2
                  go_quiet (exact turn_quiet _ _ _ _ _ (by decide) (by decide))
                  go_wp2
                  go_quiet (exact turn_quiet _ _ _ _ _ (by decide) (by decide))
                  go_wp2_with (first | ((with_reducible refine gate_store (t := 67) (p := 20) (v := .tmp 197) rfl ?_); refine store_new (t := 67) (p := 20) (y := .tmp 197) rfl rfl rfl rfl rfl (by kernel_rfl) rfl (V8.u_one ⟨_, _, _, _, _, _, _, _⟩) ?_) | ((with_reducible refine gate_dst (N := 198) rfl ?_); refine load_ev (t := 67) (x := .tmp 20) (g := wr.heap.size) rfl rfl rfl Try.underlying67 rfl (heap_alloc_last _ _) (by kernel_rfl) ?_) | ((with_reducible refine gate_store (t := 67) (p := 13) (v := .tmp 198) rfl ?_); refine store_row (t := 67) (p := 13) (y := .tmp 198) (g := kb + 1) rfl rfl rfl rfl rfl (blk_alloc (blk_drewN HV.out _) _) (by kernel_rfl) rfl (V8.u_one ⟨_, _, _, _, _, _, _, _⟩) ?_; intro w2 hw2 ho2 hB2))
                  go_roundg (64 - (t + 1))
                  case measure => omega
                  case rel =>
                    have hbw := below_alloc (pw_below_drewN HB.out _) _ |>.trans (hB2 w.heap.size (by omega))
                    have hsz := (hB2 0 (by omega)).size
                    rw [size_alloc] at hsz
                    replace hsz : wr.heap.size + 1 ≤ w2.heap.size := hsz
                    have hs1 := HS.out
                    refine ⟨t + 1, by omega, by go_num, ⟨(ho2 _ (by omega)).trans (blk_alloc (blk_drewN HH.out _) _)⟩, ⟨(ho2 _ (by omega)).trans (blk_alloc (blk_drewN HZ.out _) _)⟩, ⟨(ho2 _ (by omega)).trans (blk_alloc (blk_drewN HW.out _) _)⟩, ⟨(ho2 _ (by omega)).trans (blk_alloc (blk_drewN HK.out _) _)⟩, ⟨?_⟩, ⟨hbw⟩, ⟨by omega⟩⟩
                    rw [rounds, HVE.out, HKT.out, HWT.out]
                    exact hw2
                  -- ]]
                · obtain rfl : t = 64 := by omega
                  clear hlt
                  obtain ⟨V, hV⟩ : ∃ V, rounds b H 64 = V := ⟨_, rfl⟩
                  have HVE := Aside0.mk hV
                  rw [hV] at HV
                  clear hV
                  obtain ⟨ko, hko⟩ : ∃ g, wr.heap.size = g := ⟨_, rfl⟩
                  have HG := Aside0.mk hko
                  have hs4 := HS.out
                  rw [hko] at hs4
                  go_wp2
                  go_loopg [22] 8 (fun gk5 v22 w5 => ∃ t : Nat, t + gk5 = 8 ∧ v22 = .int .i64 (t : Int) ∧ Aside0 (w5.heap[w.heap.size]? = some (.cells H.i 28 (0, 0))) ∧ Aside0 (w5.heap[w.heap.size + 1]? = some (.cells (is (List.replicate 8 0)) 28 (0, 0))) ∧ Aside0 (w5.heap[kb + 1]? = some (.cells V.u 67 (0, 0))) ∧ Aside0 (w5.heap[ko]? = some (.cells (is (fillL (fun i => (H.l.getD i 0 + V.l.getD i 0) % 4294967296) 8 t)) 28 (0, 0))) ∧ Aside0 (Below w.heap.size w w5))
                  case atStart => exact ⟨0, rfl, rfl, ⟨blk_alloc HH.out _⟩, ⟨blk_alloc HZ.out _⟩, ⟨blk_alloc HV.out _⟩, ⟨alloc_at HG.out _⟩, ⟨below_alloc HB.out _⟩⟩
                  case round =>
                    clear HH HZ HW HK HV HB HS
                    obtain ⟨t, ht5, rfl, HH, HZ, HV, HO, HB⟩ := hrel
                    by_cases hlt : (t : Int) < 8
                    · have ch := cell_at HH.out t
                      rw [show H.i = is H.l from rfl, is_at _ _ (by rw [V8.l_length]; omega)] at ch
                      have cv := cell_at HV.out t
                      rw [show V.u = us V.l from rfl, us_at _ _ (by rw [V8.l_length]; omega)] at cv
                      have cw := cell_at HO.out t
                      rw [is_at _ _ (by rw [fillL_length]; omega)] at cw
                      have cf := free_at HO.out t
                      go_wp2
                      go_region
                      go_wp2
                      go_roundg (8 - (t + 1))
                      case measure => omega
                      case rel =>
                        refine ⟨t + 1, by omega, by go_num, ⟨(heap_other _ _ _ _ _ (by omega)).trans HH.out⟩, ⟨(heap_other _ _ _ _ _ (by omega)).trans HZ.out⟩, ⟨(heap_other _ _ _ _ _ (by omega)).trans HV.out⟩, ⟨?_⟩, ⟨below_drew (below_set HB.out (by omega))⟩⟩
                        refine (heap_set HO.out _ _).trans ?_
                        rw [is_set]
                        rfl
                    · obtain rfl : t = 8 := by omega
                      clear hlt
                      go_wp2_with (first | ((with_reducible refine gate_dst (N := 215) rfl ?_); refine load_ev (t := 28) (x := .tmp 21) (g := ko) rfl rfl rfl Try.underlying28 rfl HO.out (by kernel_rfl) ?_) | ((with_reducible refine gate_store (t := 28) (p := 4) (v := .tmp 215) rfl ?_); refine store_row (t := 28) (p := 4) (y := .tmp 215) (g := w.heap.size + 1) rfl rfl rfl rfl rfl HZ.out (by kernel_rfl) rfl (V8.i_one ⟨_, _, _, _, _, _, _, _⟩) ?_; intro w2 hw2 ho2 hB2))
                      refine ret_cell rfl Try.underlying28 rfl (by kernel_rfl) rfl hw2 rfl ?_
                      refine ⟨?_, HB.out.trans (hB2 _ (by omega))⟩
                      rw [blk, HVE.out]
                      rfl
end Go.Proofs.Ytgfhbkhbnmgogaa.GFnExactHmac.Hand
