import Derived.Test.YtgfhbkhbnmgogaaGFnExactHmacBlk
namespace Go.Proofs.Ytgfhbkhbnmgogaa.GFnExactHmac.Hand
open Go.RowKit Go.Proofs.YtgfhbkhbnmgogaaW.PrintWords Go.Proofs.YtgfhbkhbnmgogaaW.PrintLast Go.Proofs.YtgfhbkhbnmgogaaW.PrintMore
set_option linter.unusedVariables false
set_option linter.unusedSimpArgs false
/-! ### impl.digested: function 63 -/
theorem or_comm32 (x y : Int) : Go.bits .or .u32 x y = Go.bits .or .u32 y x := by
  show IntKind.u32.wrap ((BitVec.ofInt 32 x ||| BitVec.ofInt 32 y).toNat : Int) = IntKind.u32.wrap ((BitVec.ofInt 32 y ||| BitVec.ofInt 32 x).toNat : Int)
  rw [BitVec.or_comm]
theorem impl_tn (x n : Int) (h0 : 0 ≤ n) (h1 : n ≤ 32) (hs : Go.bits .and .u64 (IntKind.u64.wrap (wrap64 (-n))) 31 = 32 - n) : impl_turn.f x n = some (tn x n) := by
  unfold impl_turn.f bits_RotateLeft32.f tn
  rw [hs, if_pos (by omega), show IntKind.u64.wrap (32 - (32 - n)) = n by show (32 - (32 - n)) % 18446744073709551616 = n; omega, if_pos h0, Base.w64 (x := 32 - n) (by omega) (by omega), or_comm32]
  rfl
def okn (n : Int) : Prop := n = 2 ∨ n = 6 ∨ n = 7 ∨ n = 11 ∨ n = 13 ∨ n = 17 ∨ n = 18 ∨ n = 19 ∨ n = 22 ∨ n = 25
theorem okn_tn (x n : Int) (h : okn n) : impl_turn.f x n = some (tn x n) := by
  rcases h with rfl | rfl | rfl | rfl | rfl | rfl | rfl | rfl | rfl | rfl <;> exact impl_tn x _ (by decide) (by decide) (by decide +kernel)
theorem turn2_calls (x n : Int) (w : World) (h : okn n) : Calls Try.prog 71 #[.int .u32 x, .int .i64 n] w fun e w' => e = .returned (.int .u32 (tn x n)) ∧ ∃ k, w' = w.drewN k := by
  refine (impl_turn.calls x n (tn x n) w (okn_tn x n h)).mono ?_
  rintro e w' ⟨rfl, k, rfl⟩
  exact ⟨rfl, k, rfl⟩
theorem turn2_quiet (x n : Int) (w : World) (p q : Nat) (h : okn n) : Calls Try.prog 71 #[.int .u32 x, .int .i64 n] (w.drewN (p + q)) fun e w' => e = .returned (.int .u32 (tn x n)) ∧ ∃ k, w' = w.drewN (p + k) := by
  refine (turn2_calls x n _ h).mono ?_
  rintro e w' ⟨rfl, k, rfl⟩
  exact ⟨rfl, q + k, by rw [World.drewN_drewN, Nat.add_assoc]⟩
/-- What a cell holds. -/
def cv (w : World) (a : Addr) : Value := (w.cell? a).getD undef
theorem cv_of {w : World} {a : Addr} {v : Value} (h : w.cell? a = some v) : w.cell? a = some (cv w a) := by
  unfold cv
  rw [h]
  rfl
theorem cell_ne {w : World} {g i j : Nat} {v : Value} (h : i ≠ j) : (w.setCell ⟨g, i, none⟩ v).cell? ⟨g, j, none⟩ = w.cell? ⟨g, j, none⟩ :=
  World.cell?_setCell_other (h := fun e => h (by injection e)) ..
/-- V, the first t words summed with H's. -/
def updV (V H : V8) (t : Nat) : V8 :=
  ⟨if 0 < t then (V.a + H.a) % 4294967296 else V.a, if 1 < t then (V.b + H.b) % 4294967296 else V.b, if 2 < t then (V.c + H.c) % 4294967296 else V.c, if 3 < t then (V.d + H.d) % 4294967296 else V.d, if 4 < t then (V.e + H.e) % 4294967296 else V.e, if 5 < t then (V.f + H.f) % 4294967296 else V.f, if 6 < t then (V.g + H.g) % 4294967296 else V.g, if 7 < t then (V.h + H.h) % 4294967296 else V.h⟩
theorem updV_at (V H : V8) : ∀ t, t < 8 → (updV V H t).l.getD t 0 = V.l.getD t 0
  | 0, _ => rfl | 1, _ => rfl | 2, _ => rfl | 3, _ => rfl | 4, _ => rfl | 5, _ => rfl | 6, _ => rfl | 7, _ => rfl
  | n + 8, h => absurd h (by omega)
theorem updV_set (V H : V8) : ∀ t, t < 8 → (updV V H t).l.set t ((V.l.getD t 0 + H.l.getD t 0) % 4294967296) = (updV V H (t + 1)).l
  | 0, _ => rfl | 1, _ => rfl | 2, _ => rfl | 3, _ => rfl | 4, _ => rfl | 5, _ => rfl | 6, _ => rfl | 7, _ => rfl
  | n + 8, h => absurd h (by omega)
theorem updV_zero (V H : V8) : updV V H 0 = V := rfl
theorem updV_all (V H : V8) : updV V H 8 = addV H V := by
  show (⟨_, _, _, _, _, _, _, _⟩ : V8) = ⟨_, _, _, _, _, _, _, _⟩
  simp [Int.add_comm]
set_option maxHeartbeats 16000000 in
set_option maxRecDepth 100000 in
theorem digested_calls (H : V8) (kb : Nat) (A : Option Addr) (n c : Nat) (b : List Int) (w : World) (hk : w.heap[kb]? = some (.cells (us keysL) 69 (0, 0))) (hb : Kd.C (Kd.int .u8) w A n b) (hn : 64 ≤ n) (hbl : b.length = n) :
    Calls Try.prog 63 #[.agg H.u, .pointer (some ⟨kb, 0, none⟩), .slice A n c] w fun e w' => e = .returned (.agg (blk H b).u) ∧ Below w.heap.size w w' := by
  obtain ⟨adb, hadb, hcb⟩ := Kd.at_int hb 0 (by omega) (by omega)
  obtain ⟨gb, ob, rfl⟩ := addr_plain hcb
  subst hadb
  clear hcb
  have hkb : kb < w.heap.size := blk_lt hk
  have HBB := Aside0.mk hb
  have HBL := Aside0.mk hbl
  have HK := Aside0.mk hk
  clear hb hbl hk
  unfold V8.u
  go_enter Try.func63, Try.ntmps63
  go_wp2_with (first | (refine ev_build69 rfl rfl ?_) | (refine ev_alloc69 rfl rfl ?_) | (refine ev_store69 rfl rfl rfl rfl (c' := Z64) (l := List.replicate 64 0) rfl rfl (by simp) ?_))
  go_loopg [23] 64 (fun gk v23 wr => ∃ t : Nat, t + gk = 64 ∧ v23 = .int .i64 (t : Int) ∧ Aside0 (wr.heap[w.heap.size]? = some (.cells H.u 67 (0, 0))) ∧ Aside0 (wr.heap[w.heap.size + 1]? = some (.cells (us (List.replicate 8 0)) 67 (0, 0))) ∧ Aside0 (wr.heap[w.heap.size + 2]? = some (.cells (us (wl b t)) 69 (0, 0))) ∧ Aside0 (Below w.heap.size w wr) ∧ Aside0 (wr.heap.size = w.heap.size + 3))
  case atStart =>
    exact ⟨0, rfl, rfl, ⟨blk_alloc (blk_alloc (heap_alloc_last _ _) _) _⟩, ⟨blk_alloc (alloc_at (by rw [size_alloc]) _) _⟩, ⟨alloc_at (by rw [size_alloc, size_alloc]) _⟩, ⟨below_alloc (below_alloc (below_alloc (Below.refl _ _) _) _) _⟩, ⟨by rw [size_alloc, size_alloc, size_alloc]⟩⟩
  case round =>
    obtain ⟨t, ht, rfl, HH, HZ, HW, HB, HS⟩ := hrel
    by_cases hlt : (t : Int) < 64
    · by_cases hlo : t < 16
      · -- [[
        have hlo2 : (t : Int) < 16 := by omega
        obtain ⟨ad, hA, c0⟩ := Kd.at_int HBB.out ((4 * t : Nat) : Int) (by omega) (by omega)
        cases hA
        obtain ⟨ad1, hA1, c1⟩ := Kd.at_int HBB.out ((4 * t + 1 : Nat) : Int) (by omega) (by omega)
        cases hA1
        obtain ⟨ad2, hA2, c2⟩ := Kd.at_int HBB.out ((4 * t + 2 : Nat) : Int) (by omega) (by omega)
        cases hA2
        obtain ⟨ad3, hA3, c3⟩ := Kd.at_int HBB.out ((4 * t + 3 : Nat) : Int) (by omega) (by omega)
        cases hA3
        replace c0 := (HB.out.cell (World.block_lt_of_cell? w _ c0)).trans c0
        replace c1 := (HB.out.cell (World.block_lt_of_cell? w _ c1)).trans c1
        replace c2 := (HB.out.cell (World.block_lt_of_cell? w _ c2)).trans c2
        replace c3 := (HB.out.cell (World.block_lt_of_cell? w _ c3)).trans c3
        rw [Int.toNat_natCast] at c0 c1 c2 c3
        rw [Addr.add_mid] at c0 c1 c2 c3
        obtain ⟨x0, h0⟩ : ∃ x, rd b ((4 * t : Nat) : Int) = x := ⟨_, rfl⟩
        obtain ⟨x1, h1⟩ : ∃ x, rd b ((4 * t + 1 : Nat) : Int) = x := ⟨_, rfl⟩
        obtain ⟨x2, h2⟩ : ∃ x, rd b ((4 * t + 2 : Nat) : Int) = x := ⟨_, rfl⟩
        obtain ⟨x3, h3⟩ : ∃ x, rd b ((4 * t + 3 : Nat) : Int) = x := ⟨_, rfl⟩
        rw [h0] at c0
        rw [h1] at c1
        rw [h2] at c2
        rw [h3] at c3
        have HX : Aside0 (word b t = Go.bits .or .u32 (Go.bits .or .u32 (Go.bits .or .u32 (IntKind.u32.wrap (IntKind.u32.wrap x0 * 16777216)) (IntKind.u32.wrap (IntKind.u32.wrap x1 * 65536))) (IntKind.u32.wrap (IntKind.u32.wrap x2 * 256))) (IntKind.u32.wrap x3)) := ⟨by rw [← h3, ← h2, ← h1, ← h0]; rfl⟩
        clear h0 h1 h2 h3
        have cw := cell_at HW.out t
        rw [us_at _ _ (by rw [wl_length]; omega)] at cw
        have cf := free_at HW.out t
        obtain ⟨y, hy⟩ : ∃ y, (wl b t).getD t 0 = y := ⟨_, rfl⟩
        rw [hy] at cw
        clear hy
        go_wp2
        go_region
        go_wp2
        go_roundg (64 - (t + 1))
        case measure => omega
        case rel =>
          refine ⟨t + 1, by omega, by go_num, ⟨(heap_other _ _ _ _ _ (by omega)).trans HH.out⟩, ⟨(heap_other _ _ _ _ _ (by omega)).trans HZ.out⟩, ⟨?_⟩, ⟨below_drew (below_set HB.out (by omega))⟩, ⟨(size_set _ _ _).trans HS.out⟩⟩
          refine (heap_set HW.out _ _).trans ?_
          rw [us_set, wl_lo b t hlo, HX.out]
          rfl
        -- ]]
      · -- [[
        obtain ⟨t, rfl⟩ : ∃ s, t = s + 16 := ⟨t - 16, by omega⟩
        have hlo2 : ¬ ((t + 16 : Nat) : Int) < 16 := by omega
        have hw : ∀ j, j < 64 → wr.cell? ⟨w.heap.size + 1 + 1, j, none⟩ = some (.int .u32 ((wl b (t + 16)).getD j 0)) := fun j hj => by
          have := cell_at HW.out j
          rwa [us_at _ _ (by rw [wl_length]; omega)] at this
        have cx := hw (t + 1) (by omega)
        have cy := hw (t + 14) (by omega)
        have c7 := hw (t + 9) (by omega)
        have c16 := hw t (by omega)
        have cw := hw (t + 16) (by omega)
        have cf := free_at HW.out (t + 16)
        obtain ⟨x, hx⟩ : ∃ y, (wl b (t + 16)).getD (t + 1) 0 = y := ⟨_, rfl⟩
        obtain ⟨y, hy⟩ : ∃ y, (wl b (t + 16)).getD (t + 14) 0 = y := ⟨_, rfl⟩
        obtain ⟨x7, hx7⟩ : ∃ y, (wl b (t + 16)).getD (t + 9) 0 = y := ⟨_, rfl⟩
        obtain ⟨x16, hx16⟩ : ∃ y, (wl b (t + 16)).getD t 0 = y := ⟨_, rfl⟩
        obtain ⟨z, hz⟩ : ∃ y, (wl b (t + 16)).getD (t + 16) 0 = y := ⟨_, rfl⟩
        rw [hx] at cx
        rw [hy] at cy
        rw [hx7] at c7
        rw [hx16] at c16
        rw [hz] at cw
        have HM : Aside0 (mix (wl b (t + 16)) (t + 16) = (ss1 y + x7 + ss0 x + x16) % 4294967296) := ⟨by rw [← hx, ← hy, ← hx7, ← hx16]; rfl⟩
        clear hw hx hy hx7 hx16 hz
        obtain ⟨T, hT⟩ : ∃ x : Int, ((t + 16 : Nat) : Int) = x := ⟨_, rfl⟩
        obtain ⟨U, hU⟩ : ∃ x : Int, ((t + 1 : Nat) : Int) = x := ⟨_, rfl⟩
        obtain ⟨V, hV⟩ : ∃ x : Int, ((t + 14 : Nat) : Int) = x := ⟨_, rfl⟩
        obtain ⟨X, hX⟩ : ∃ x : Int, ((t + 9 : Nat) : Int) = x := ⟨_, rfl⟩
        obtain ⟨Y, hY⟩ : ∃ x : Int, (t : Int) = x := ⟨_, rfl⟩
        rw [show t + 1 = U.toNat by omega] at cx
        rw [show t + 14 = V.toNat by omega] at cy
        rw [show t + 9 = X.toNat by omega] at c7
        rw [show t = Y.toNat by omega] at c16
        rw [show t + 16 = T.toNat by omega] at cw cf
        have eU : IntKind.i64.wrap (T - 15) = U := (i64_w _).trans (by rw [Base.w64] <;> omega)
        have eV : IntKind.i64.wrap (T - 2) = V := (i64_w _).trans (by rw [Base.w64] <;> omega)
        have eX : IntKind.i64.wrap (T - 7) = X := (i64_w _).trans (by rw [Base.w64] <;> omega)
        have eY : IntKind.i64.wrap (T - 16) = Y := (i64_w _).trans (by rw [Base.w64] <;> omega)
        have eT : IntKind.i64.wrap (T + 1) = T + 1 := (i64_w _).trans (by rw [Base.w64] <;> omega)
        have pU := eq_true (show 0 ≤ U by omega)
        have pV := eq_true (show 0 ≤ V by omega)
        have pX := eq_true (show 0 ≤ X by omega)
        have pY := eq_true (show 0 ≤ Y by omega)
        have pT := eq_true (show 0 ≤ T by omega)
        have qU := eq_true (show U < 64 by omega)
        have qV := eq_true (show V < 64 by omega)
        have qX := eq_true (show X < 64 by omega)
        have qY := eq_true (show Y < 64 by omega)
        have qT := eq_true (show T < 64 by omega)
        have rT := eq_false (show ¬ T < 16 by omega)
        have hTX : T.toNat ≠ X.toNat := by omega
        have hTY : T.toNat ≠ Y.toNat := by omega
        rw [hT]
        have HT := Aside0.mk hT
        clear hT hU hV hX hY hlo hlo2 hlt
        go_wp2
        go_quiet (fail)
        go_wp2
        have hcvd : ∀ (W : World) (m : Nat) (A : Addr), cv (W.drewN m) A = cv W A := fun _ _ _ => rfl
        have hcvr : ∀ (W : World) (A : Addr), cv W.drew A = cv W A := fun _ _ => rfl
        have hcv0 : cv wr ⟨w.heap.size + 1 + 1, T.toNat, none⟩ = .int .u32 z := by unfold cv; rw [cw]; rfl
        have HKEEP : Aside0 (∀ (m : Nat) (v : Value), ((wr.drewN m).setCell ⟨w.heap.size + 1 + 1, T.toNat, none⟩ v).cell? ⟨w.heap.size + 1 + 1, X.toNat, none⟩ = some (.int .u32 x7) ∧ ((wr.drewN m).setCell ⟨w.heap.size + 1 + 1, T.toNat, none⟩ v).cell? ⟨w.heap.size + 1 + 1, Y.toNat, none⟩ = some (.int .u32 x16) ∧ ((wr.drewN m).setCell ⟨w.heap.size + 1 + 1, T.toNat, none⟩ v).cell? ⟨w.heap.size + 1 + 1, T.toNat, none⟩ = some (cv ((wr.drewN m).setCell ⟨w.heap.size + 1 + 1, T.toNat, none⟩ v) ⟨w.heap.size + 1 + 1, T.toNat, none⟩) ∧ ((wr.drewN m).setCell ⟨w.heap.size + 1 + 1, T.toNat, none⟩ v).frozen? ⟨w.heap.size + 1 + 1, T.toNat, none⟩ = false) := ⟨fun m v =>
          ⟨(cell_ne hTX).trans c7, (cell_ne hTY).trans c16, cv_of (World.cell?_setCell_same (h := (show (wr.drewN m).cell? ⟨w.heap.size + 1 + 1, T.toNat, none⟩ = some (.int .u32 z) from cw)) ..), (World.frozen?_setCell ..).trans cf⟩⟩
        go_region_held3 (fun w' => w'.cell? ⟨w.heap.size + 1 + 1, X.toNat, none⟩ = some (.int .u32 x7) ∧ w'.cell? ⟨w.heap.size + 1 + 1, Y.toNat, none⟩ = some (.int .u32 x16) ∧ w'.cell? ⟨w.heap.size + 1 + 1, T.toNat, none⟩ = some (cv w' ⟨w.heap.size + 1 + 1, T.toNat, none⟩) ∧ w'.frozen? ⟨w.heap.size + 1 + 1, T.toNat, none⟩ = false) ((first | exact HKEEP.out _ _ | go_keep)) ((go_at_call 71; refine (turn2_calls _ _ _ (by simp [okn])).mono ?_; rintro e w' ⟨rfl, k1, rfl⟩))
        go_wp2
        have hlt3 : t + 16 < 64 := by have := of_eq_true qT; have := HT.out; omega
        go_roundg (64 - (t + 16 + 1))
        case measure => omega
        case rel =>
          have e1 : T.toNat = t + 16 := by have := HT.out; omega
          refine ⟨t + 16 + 1, by omega, ?_, ⟨(heap_other _ _ _ _ _ (by omega)).trans HH.out⟩, ⟨(heap_other _ _ _ _ _ (by omega)).trans HZ.out⟩, ⟨?_⟩, ⟨below_set (pw_below_drewN HB.out _) (by omega)⟩, ⟨(size_set _ _ _).trans HS.out⟩⟩
          · have := HT.out
            first | (rw [← this]; rfl) | (congr 1; omega) | (simp [← this])
          · refine (heap_set HW.out _ _).trans ?_
            have key : ∀ A B : Int, (((A + x7) % 4294967296 + B) % 4294967296 + x16) % 4294967296 = (A + x7 + B + x16) % 4294967296 := fun A B => by omega
            rw [us_set, wl_hi b (t + 16) (by omega), HM.out, e1, key]
            rfl
        -- ]]
    · obtain rfl : t = 64 := by omega
      clear hlt
      obtain ⟨ks, hks⟩ : ∃ g, wr.heap.size = g := ⟨_, rfl⟩
      have HG := Aside0.mk hks
      have hs3 : w.heap.size + 3 ≤ ks := by have := HS.out; omega
      go_wp2_with (first | ((with_reducible refine gate_dst (N := 101) rfl ?_); refine load_ev (t := 67) (x := .tmp 3) (g := w.heap.size) rfl rfl rfl Try.underlying67 rfl HH.out (by kernel_rfl) ?_) | ((with_reducible refine gate_store (t := 67) (p := 11) (v := .tmp 101) rfl ?_); refine store_new (t := 67) (p := 11) (y := .tmp 101) rfl rfl rfl (by rw [hks]; rfl) rfl (by kernel_rfl) rfl (V8.u_one H) ?_))
      go_loopg [102] 64 (fun gk v102 w2 => ∃ t : Nat, t + gk = 64 ∧ v102 = .int .i64 (t : Int) ∧ Aside0 (w2.heap[w.heap.size]? = some (.cells H.u 67 (0, 0))) ∧ Aside0 (w2.heap[w.heap.size + 1]? = some (.cells (us (List.replicate 8 0)) 67 (0, 0))) ∧ Aside0 (w2.heap[w.heap.size + 2]? = some (.cells (us (wl b 64)) 69 (0, 0))) ∧ Aside0 (w2.heap[ks]? = some (.cells (rounds b H t).u 67 (0, 0))) ∧ Aside0 (Below w.heap.size w w2))
      case atStart => exact ⟨0, rfl, rfl, ⟨blk_alloc HH.out _⟩, ⟨blk_alloc HZ.out _⟩, ⟨blk_alloc HW.out _⟩, ⟨alloc_at HG.out _⟩, ⟨below_alloc HB.out _⟩⟩
      case round =>
        clear HH HZ HW HB HS
        obtain ⟨t, ht4, rfl, HH, HZ, HW, HV, HB⟩ := hrel
        by_cases hlt : (t : Int) < 64
        · -- [[
          obtain ⟨V, hV⟩ : ∃ V, rounds b H t = V := ⟨_, rfl⟩
          have HVE := Aside0.mk hV
          rw [hV] at HV
          clear hV
          have ca := cell_at HV.out 0
          have cb := cell_at HV.out 1
          have cc := cell_at HV.out 2
          have cd := cell_at HV.out 3
          have ce := cell_at HV.out 4
          have cf := cell_at HV.out 5
          have cg := cell_at HV.out 6
          have ch := cell_at HV.out 7
          obtain ⟨va, vb, vc, vd, ve, vf, vg, vh⟩ := V
          replace ca : wr.cell? ⟨ks, 0, none⟩ = some (.int .u32 va) := ca
          replace cb : wr.cell? ⟨ks, 1, none⟩ = some (.int .u32 vb) := cb
          replace cc : wr.cell? ⟨ks, 2, none⟩ = some (.int .u32 vc) := cc
          replace cd : wr.cell? ⟨ks, 3, none⟩ = some (.int .u32 vd) := cd
          replace ce : wr.cell? ⟨ks, 4, none⟩ = some (.int .u32 ve) := ce
          replace cf : wr.cell? ⟨ks, 5, none⟩ = some (.int .u32 vf) := cf
          replace cg : wr.cell? ⟨ks, 6, none⟩ = some (.int .u32 vg) := cg
          replace ch : wr.cell? ⟨ks, 7, none⟩ = some (.int .u32 vh) := ch
          have ck := cell_at (blk_below HK.out HB.out) t
          rw [us_at _ _ (show t < 64 by omega)] at ck
          have cw := cell_at HW.out t
          rw [us_at _ _ (by rw [wl_length]; omega)] at cw
          obtain ⟨kt, hkt⟩ : ∃ y, keysL.getD t 0 = y := ⟨_, rfl⟩
          obtain ⟨wt, hwt⟩ : ∃ y, (wl b 64).getD t 0 = y := ⟨_, rfl⟩
          rw [hkt] at ck
          rw [hwt] at cw
          have HKT := Aside0.mk hkt
          have HWT := Aside0.mk hwt
          clear hkt hwt
          go_wp2
          go_quiet (fail)
          go_wp2
          go_quiet (exact turn2_quiet _ _ _ _ _ (by simp [okn]))
          go_wp2_with fail
          refine (turn2_calls _ _ _ (by simp [okn])).mono ?_
          rintro e w' ⟨rfl, k1, rfl⟩
          go_wp2_with fail
          refine (turn2_calls _ _ _ (by simp [okn])).mono ?_
          rintro e w' ⟨rfl, k2, rfl⟩
          go_wp2_with fail
          refine (turn2_calls _ _ _ (by simp [okn])).mono ?_
          rintro e w' ⟨rfl, k3, rfl⟩
          go_wp2_with ((with_reducible refine gate_store (t := 67) (p := 11) (v := .tmp 180) rfl ?_); refine store_row (t := 67) (p := 11) (y := .tmp 180) (g := ks) rfl rfl rfl rfl rfl (blk_drewN HV.out _) (by kernel_rfl) rfl (V8.u_one ⟨_, _, _, _, _, _, _, _⟩) ?_; intro w5 hw5 ho5 hB5)
          go_roundg (64 - (t + 1))
          case measure => omega
          case rel =>
            refine ⟨t + 1, by omega, by go_num, ⟨(ho5 _ (by omega)).trans (blk_drewN HH.out _)⟩, ⟨(ho5 _ (by omega)).trans (blk_drewN HZ.out _)⟩, ⟨(ho5 _ (by omega)).trans (blk_drewN HW.out _)⟩, ⟨?_⟩, ⟨(pw_below_drewN HB.out _).trans (hB5 w.heap.size (by omega))⟩⟩
            rw [rounds, HVE.out, HKT.out, HWT.out]
            exact hw5
          -- ]]
        · obtain rfl : t = 64 := by omega
          clear hlt
          obtain ⟨V, hV⟩ : ∃ V, rounds b H 64 = V := ⟨_, rfl⟩
          have HVE := Aside0.mk hV
          rw [hV] at HV
          clear hV
          go_wp2
          go_loopg [182] 8 (fun gk v182 w5 => ∃ t : Nat, t + gk = 8 ∧ v182 = .int .i64 (t : Int) ∧ Aside0 (w5.heap[w.heap.size]? = some (.cells H.u 67 (0, 0))) ∧ Aside0 (w5.heap[w.heap.size + 1]? = some (.cells (us (List.replicate 8 0)) 67 (0, 0))) ∧ Aside0 (w5.heap[ks]? = some (.cells (updV V H t).u 67 (0, 0))) ∧ Aside0 (Below w.heap.size w w5))
          case atStart => exact ⟨0, rfl, rfl, HH, HZ, HV, HB⟩
          case round =>
            clear HH HZ HW HV HB
            obtain ⟨t, ht5, rfl, HH, HZ, HV, HB⟩ := hrel
            by_cases hlt : (t : Int) < 8
            · have ht8 : t < 8 := by omega
              have ch := cell_at HH.out t
              rw [show H.u = us H.l from rfl, us_at _ _ (by rw [V8.l_length]; omega)] at ch
              have cv := cell_at HV.out t
              rw [show (updV V H t).u = us (updV V H t).l from rfl, us_at _ _ (by rw [V8.l_length]; omega), updV_at V H t ht8] at cv
              have cf := free_at HV.out t
              obtain ⟨x, hx⟩ : ∃ y, H.l.getD t 0 = y := ⟨_, rfl⟩
              obtain ⟨y, hy⟩ : ∃ y, V.l.getD t 0 = y := ⟨_, rfl⟩
              rw [hx] at ch
              rw [hy] at cv
              have HX := Aside0.mk hx
              have HY := Aside0.mk hy
              clear hx hy
              go_wp2
              go_region
              go_wp2
              go_roundg (8 - (t + 1))
              case measure => omega
              case rel =>
                refine ⟨t + 1, by omega, by go_num, ⟨(heap_other _ _ _ _ _ (by omega)).trans HH.out⟩, ⟨(heap_other _ _ _ _ _ (by omega)).trans HZ.out⟩, ⟨?_⟩, ⟨below_drew (below_set HB.out (by omega))⟩⟩
                refine (heap_set HV.out _ _).trans ?_
                rw [show (updV V H t).u = us (updV V H t).l from rfl, us_set, show (updV V H (t + 1)).u = us (updV V H (t + 1)).l from rfl, ← updV_set V H t ht8, HX.out, HY.out]
            · obtain rfl : t = 8 := by omega
              clear hlt
              go_wp2_with (first | ((with_reducible refine gate_dst (N := 194) rfl ?_); refine load_ev (t := 67) (x := .tmp 11) (g := ks) rfl rfl rfl Try.underlying67 rfl HV.out (by kernel_rfl) ?_) | ((with_reducible refine gate_store (t := 67) (p := 6) (v := .tmp 194) rfl ?_); refine store_row (t := 67) (p := 6) (y := .tmp 194) (g := w.heap.size + 1) rfl rfl rfl rfl rfl HZ.out (by kernel_rfl) rfl (V8.u_one ⟨_, _, _, _, _, _, _, _⟩) ?_; intro w6 hw6 ho6 hB6))
              refine ret_cell rfl Try.underlying67 rfl (by kernel_rfl) rfl hw6 rfl ?_
              refine ⟨?_, HB.out.trans (hB6 _ (by omega))⟩
              rw [blk, HVE.out, ← updV_all]
              rfl
end Go.Proofs.Ytgfhbkhbnmgogaa.GFnExactHmac.Hand
