import Derived.Test.YtgfhbkhbnmgogaaGFnExactHmacGx
import Derived.Deep.RegionHeld3
namespace Go.Proofs.Ytgfhbkhbnmgogaa.GFnExactHmac.Hand
open Go.RowKit Go.Proofs.YtgfhbkhbnmgogaaW.PrintWords Go.Proofs.YtgfhbkhbnmgogaaW.PrintLast Go.Proofs.YtgfhbkhbnmgogaaW.PrintMore
set_option linter.unusedVariables false
set_option linter.unusedSimpArgs false
/-- k blocks are taken. -/
def feedL : Nat → V8 → List Int → V8 × List Int
  | 0, h, a => (h, a)
  | k + 1, h, a => feedL k (blk h a) (a.drop 64)
set_option maxHeartbeats 8000000 in
set_option maxRecDepth 100000 in
theorem fedM_calls (H : V8) (Ar : Option Addr) (nr cr : Nat) (rs : List Int) (m : Nat) (Ad : Option Addr) (nd cd : Nat) (ds : List Int) (w : World) (hH : wrapV H = H) (hr : (Kd.int .u8).C w Ar nr rs) (er : rs.length = nr) (hd : (Kd.int .u8).C w Ad nd ds) (ed : ds.length = nd) (lr : nr ≤ 100000) (ld : nd ≤ 100000) (lm : m ≤ 100000) :
    Calls Try.prog 40 #[.agg (stC H.l (.slice Ar nr cr) (m : Int)), .slice Ad nd cd] w fun e w' => ∃ (A : Option Addr) (c : Nat), e = .returned (.agg (stC (feedL ((nr + nd) / 64) H (rs ++ ds)).1.l (.slice A (feedL ((nr + nd) / 64) H (rs ++ ds)).2.length c) ((m + nd : Nat) : Int))) ∧ RawM w.heap.size w' A (feedL ((nr + nd) / 64) H (rs ++ ds)).2.length c (feedL ((nr + nd) / 64) H (rs ++ ds)).2 ∧ Below w.heap.size w w' := by
  have HH := Aside0.mk hH
  have HRS := Aside0.mk hr
  have HDS := Aside0.mk hd
  have ER := Aside0.mk er
  have ED := Aside0.mk ed
  obtain ⟨F, hF⟩ : ∃ F, feedL ((nr + nd) / 64) H (rs ++ ds) = F := ⟨_, rfl⟩
  rw [hF]
  have HF := Aside0.mk hF
  clear hH hr hd er ed hF
  show Calls Try.prog 40 #[.agg #[.int .i64 H.a, .int .i64 H.b, .int .i64 H.c, .int .i64 H.d, .int .i64 H.e, .int .i64 H.f, .int .i64 H.g, .int .i64 H.h, .slice Ar nr cr, .int .i64 (m : Int)], .slice Ad nd cd] w _
  go_enter Try.func40, Try.ntmps40
  go_upto_region 1 with (fail)
  go_cut [5, 6, 7] (fun v5 v6 v7 wc => ∃ (g5 g6 : Nat) (A : Option Addr) (c : Nat), v5 = .pointer (some ⟨g5, 0, none⟩) ∧ v6 = .pointer (some ⟨g6, 0, none⟩) ∧ v7 = .slice A (nr + nd) c ∧ Aside0 (nr + nd ≤ c) ∧ w.heap.size + 1 < g5 ∧ w.heap.size + 1 < g6 ∧ g5 ≠ g6 ∧ Aside0 (Below w.heap.size w wc) ∧ Aside0 (wc.heap[w.heap.size]? = some (.cells (stC H.l (.slice Ar nr cr) (m : Int)) 32 (0, 0))) ∧ Aside0 (wc.heap[w.heap.size + 1]? = some (.cells (stC (List.replicate 8 0) (.slice none 0 0) 0) 32 (0, 0))) ∧ Aside0 (wc.heap[g5]? = some (.cells H.u 67 (0, 0))) ∧ Aside0 (wc.heap[g6]? = some (.cells (us keysL) 69 (0, 0))) ∧ Aside0 (RawB w.heap.size wc A (nr + nd) (rs ++ ds)))
  case first =>
    refine wp_region_inv (fun L a w1 => ∃ x5 x6 x7 x11 x12 x13 x14 x15 x16 x17 x18 : Value, a = ⟨#[.agg #[.int .i64 H.a, .int .i64 H.b, .int .i64 H.c, .int .i64 H.d, .int .i64 H.e, .int .i64 H.f, .int .i64 H.g, .int .i64 H.h, .slice Ar nr cr, .int .i64 (m : Int)], .slice Ad nd cd, .pointer (some ⟨w.heap.size, 0, none⟩), undef, .pointer (some ⟨w.heap.size + 1, 0, none⟩), x5, x6, x7, undef, undef, undef, x11, x12, x13, x14, x15, x16, x17, x18, undef, undef, undef, undef, undef, undef, undef, undef, undef, undef, undef, undef, undef, undef, undef, undef, undef, undef, undef, undef, undef, undef, undef, undef, undef, undef, undef, undef], []⟩ ∧ Fx H Ar nr cr rs m Ad nd cd ds w L x5 x6 x7 x11 x12 x13 x14 x15 x16 x17 x18 w1) (by kernel_rfl) (fore_of (by kernel_rfl)) ?h0 ?step ?fin
    case h0 =>
      refine ⟨undef, undef, undef, undef, undef, undef, undef, undef, undef, undef, undef, rfl, ?_⟩
      exact {
        bw := below_drew (below_alloc (below_alloc (Below.refl _ _) _) _)
        hb := blk_alloc (heap_alloc_last w _) _
        hz := alloc_at (size_alloc w _) _
        k10 := fun h => by simp at h
        k11 := fun h => by simp at h
        k12 := fun h => by simp at h
        f0 := fun h => by simp at h
        f1 := fun h => by simp at h
        f2 := fun h => by simp at h
        f3 := fun h => by simp at h
        f4 := fun h => by simp at h
        f5 := fun h => by simp at h
        f6 := fun h => by simp at h
        f7 := fun h => by simp at h
        f8 := fun h => by simp at h
        f9 := fun h => by simp at h
        f12 := fun h => by simp at h }
    case step =>
      intro i o ho L a w1 hL hun hdep hI
      obtain ⟨x5, x6, x7, x11, x12, x13, x14, x15, x16, x17, x18, rfl, F⟩ := hI
      match i, ho, hun with
      | 0, ho, hun =>
        obtain rfl := Option.some.inj ho
        exact ⟨rfl, op_value (load_run (x := .tmp 2) rfl rfl Try.underlying32 rfl F.hb (by rw [stC_size]; kernel_rfl)) ⟨_, _, _, _, _, _, _, _, _, _, _, rfl, F.set0 hun rfl⟩⟩
      | 1, ho, hun =>
        obtain rfl := Option.some.inj ho
        have d0 := hdep ⟨0, .data⟩ (by simp) rfl
        obtain rfl := F.f0 d0
        refine ⟨rfl, op_call (f := 61) (args := #[.agg (stC H.l (.slice Ar nr cr) (m : Int))]) (by first | (go_simp; done) | (go_simp; rfl)) (words_calls H (.slice Ar nr cr) (m : Int) w1 HH.out) ?_⟩
        rintro e w2 ⟨rfl, hb2⟩
        exact ⟨_, rfl, _, _, _, _, _, _, _, _, _, _, _, rfl, (F.move (hb2.mono F.bw.size) (keep_of hb2)).set1 hun rfl⟩
      | 2, ho, hun =>
        obtain rfl := Option.some.inj ho
        refine ⟨rfl, op_call (f := 62) (args := #[]) (by first | (go_simp; done) | (go_simp; rfl)) (constants_calls w1) ?_⟩
        rintro e w2 ⟨rfl, hb2⟩
        exact ⟨_, rfl, _, _, _, _, _, _, _, _, _, _, _, rfl, (F.move (hb2.mono F.bw.size) (keep_of hb2)).set2 hun rfl⟩
      | 3, ho, hun =>
        obtain rfl := Option.some.inj ho
        exact ⟨rfl, op_value (v := .pointer (some ⟨w.heap.size, 8, none⟩)) (w' := w1) (by go_simp) ⟨_, _, _, _, _, _, _, _, _, _, _, rfl, F.set3 hun rfl⟩⟩
      | 4, ho, hun =>
        obtain rfl := Option.some.inj ho
        have d3 := hdep ⟨3, .data⟩ (by simp) rfl
        obtain rfl := F.f3 d3
        have hc8 : w1.cell? ⟨w.heap.size, 8, none⟩ = some (.slice Ar nr cr) := by rw [cell_at F.hb]; rfl
        exact ⟨rfl, op_value (v := .slice Ar nr cr) (w' := w1) (by go_simp) ⟨_, _, _, _, _, _, _, _, _, _, _, rfl, F.set4 hun rfl⟩⟩
      | 5, ho, hun =>
        obtain rfl := Option.some.inj ho
        exact ⟨rfl, op_value (v := .slice Ad nd cd) (w' := w1) (by go_simp) ⟨_, _, _, _, _, _, _, _, _, _, _, rfl, F.set5 hun rfl⟩⟩
      | 6, ho, hun =>
        obtain rfl := Option.some.inj ho
        have d4 := hdep ⟨4, .data⟩ (by simp) rfl
        have d5 := hdep ⟨5, .data⟩ (by simp) rfl
        obtain rfl := F.f4 d4
        obtain rfl := F.f5 d5
        have hb2 : Below w1.heap.size w1 (w1.alloc (.cells #[.slice Ar nr cr, .slice Ad nd cd] 22)) := below_alloc (Below.refl _ _) _
        exact ⟨rfl, op_value (v := .slice (some ⟨w1.heap.size, 0, none⟩) 2 2) (w' := w1.alloc (.cells #[.slice Ar nr cr, .slice Ad nd cd] 22)) (by go_simp) ⟨_, _, _, _, _, _, _, _, _, _, _, rfl, (F.move (hb2.mono F.bw.size) (keep_of hb2)).set6 hun ⟨_, rfl, heap_alloc_last _ _⟩⟩⟩
      | 7, ho, hun =>
        obtain rfl := Option.some.inj ho
        have d6 := hdep ⟨6, .data⟩ (by simp) rfl
        obtain ⟨g, rfl, hg⟩ := F.f6 d6
        refine ⟨rfl, op_call (f := 32) (args := #[.slice (some ⟨g, 0, none⟩) 2 2]) (by first | (go_simp; done) | (go_simp; rfl)) (concat_calls g Ar nr cr rs Ad nd cd ds w1 hg (Kd.C_below HRS.out F.bw) ER.out (Kd.C_below HDS.out F.bw) ED.out lr ld) ?_⟩
        rintro e w2 ⟨A, c, rfl, hr2, hb2⟩
        have hsz : w.heap.size + 1 < w1.heap.size := blk_lt F.hz
        exact ⟨_, rfl, _, _, _, _, _, _, _, _, _, _, _, rfl, (F.move (hb2.mono F.bw.size) (keep_of hb2)).set7 hun ⟨A, c, rfl, (Kd.R_reads' hr2).2.1, RawB.of_R hr2 (by rw [List.length_append, ER.out, ED.out]) hsz⟩⟩
      | 8, ho, hun =>
        obtain rfl := Option.some.inj ho
        have hsz : w.heap.size + 1 < w1.heap.size := blk_lt F.hz
        have hb2 : Below w1.heap.size w1 (w1.alloc (.cells (us (List.replicate 8 0)) 67)) := below_alloc (Below.refl _ _) _
        exact ⟨rfl, op_value (v := .pointer (some ⟨w1.heap.size, 0, none⟩)) (w' := w1.alloc (.cells (us (List.replicate 8 0)) 67)) (by first | (go_simp; done) | (go_simp; rfl)) ⟨_, _, _, _, _, _, _, _, _, _, _, rfl, (F.move (hb2.mono F.bw.size) (keep_of hb2)).set8 hun ⟨_, _, rfl, hsz, heap_alloc_last _ _, by rw [us_size]; rfl⟩⟩⟩
      | 9, ho, hun =>
        obtain rfl := Option.some.inj ho
        have hsz : w.heap.size + 1 < w1.heap.size := blk_lt F.hz
        have hb2 : Below w1.heap.size w1 (w1.alloc (.cells Z64 69)) := below_alloc (Below.refl _ _) _
        exact ⟨rfl, op_value (v := .pointer (some ⟨w1.heap.size, 0, none⟩)) (w' := w1.alloc (.cells Z64 69)) (alloc69 _ _ _ rfl) ⟨_, _, _, _, _, _, _, _, _, _, _, rfl, (F.move (hb2.mono F.bw.size) (keep_of hb2)).set9 hun ⟨_, _, rfl, hsz, heap_alloc_last _ _, by unfold Z64; rw [us_size]; simp⟩⟩⟩
      | 10, ho, hun =>
        obtain rfl := Option.some.inj ho
        have d8 := hdep ⟨8, .data⟩ (by simp) rfl
        have d1 := hdep ⟨1, .data⟩ (by simp) rfl
        obtain ⟨g, c, rfl, h1, h2, h3, h4⟩ := F.f8 d8
        obtain rfl := F.f1 d1
        exact ⟨rfl, op_store (t := 67) (p := 5) (y := .tmp 12) (g := g) (c' := H.u) rfl rfl rfl h2 (by kernel_rfl) h3 (V8.u_one H) (fun w2 ha hk hB => ⟨_, _, _, _, _, _, _, _, _, _, _, rfl, F.set10 hun d8 rfl h1 h2 ha hk (hB _ (by omega))⟩)⟩
      | 11, ho, hun =>
        obtain rfl := Option.some.inj ho
        have d9 := hdep ⟨9, .data⟩ (by simp) rfl
        have d2 := hdep ⟨2, .data⟩ (by simp) rfl
        obtain ⟨g, c, rfl, h1, h2, h3, h4⟩ := F.f9 d9
        obtain rfl := F.f2 d2
        exact ⟨rfl, op_store (t := 69) (p := 6) (y := .tmp 13) (g := g) (c' := us keysL) rfl rfl rfl h2 (by rw [us_size]; kernel_rfl) (by rw [h3, us_size]; rfl) (us_one _) (fun w2 ha hk hB => ⟨_, _, _, _, _, _, _, _, _, _, _, rfl, F.set11 hun d9 rfl h1 h2 ha hk (hB _ (by omega))⟩)⟩
      | 12, ho, hun =>
        obtain rfl := Option.some.inj ho
        have d7 := hdep ⟨7, .data⟩ (by simp) rfl
        exact ⟨rfl, op_value (v := x18) (w' := w1) rfl ⟨_, _, _, _, _, _, _, _, _, _, _, rfl, F.set12 hun rfl d7⟩⟩
      | k + 13, ho, hun => simp at ho
    case fin =>
      intro L a w1 hall hI
      obtain ⟨x5, x6, x7, x11, x12, x13, x14, x15, x16, x17, x18, rfl, F⟩ := hI
      have hal : ∀ j, j < 13 → L.getD j false = true := hall
      obtain ⟨A, c, rfl, hnc, hraw⟩ := F.f7 (hal 7 (by decide))
      obtain ⟨g5, c5, rfl, h51, h52, h53, h54⟩ := F.f8 (hal 8 (by decide))
      obtain ⟨g6, c6, rfl, h61, h62, h63, h64⟩ := F.f9 (hal 9 (by decide))
      obtain rfl := F.f12 (hal 12 (by decide))
      obtain rfl := h54 (hal 10 (by decide))
      obtain rfl := h64 (hal 11 (by decide))
      have hne : g5 ≠ g6 := fun e => by
        subst e
        rw [h52] at h62
        injection h62 with h
        injection h with h1 h2
        exact absurd h2 (by decide)
      have HBW := Aside0.mk F.bw
      have HBX := Aside0.mk F.hb
      have HZX := Aside0.mk F.hz
      have H52 := Aside0.mk h52
      have H62 := Aside0.mk h62
      have HRW := Aside0.mk hraw
      clear F h52 h62 hraw hall hal h53 h63 h54 h64
      dsimp only
      go_wp2
      go_meet
      case rel => exact ⟨g5, g6, A, c, rfl, rfl, rfl, ⟨hnc⟩, h51, h61, hne, HBW, HBX, HZX, H52, H62, HRW⟩
  case rest =>
    obtain ⟨g5, g6, A, c, rfl, rfl, rfl, HNC0, h51, h61, hne, HB, HBX, HZX, HK5, HK6, HRW⟩ := hcut
    obtain ⟨i5, hi5, hi5s⟩ := Option.map_eq_some_iff.1 info5
    have HCUT : Aside0 (∀ (A : Option Addr) (n c : Nat), 64 ≤ n → ∀ W : World, (Instr.slice 22 (.slice A n c) (some (.int .i64 64)) none none).run Try.prog W = .ok (.slice (if c = 64 then A else A.map (·.add 64)) (n - 64) (c - 64)) W) := ⟨fun A n c h => cut_from (P := Try.prog) 22 5 .i64 Try.underlying22 hi5 1 (by simp only [Prod.mk.injEq] at hi5s; exact hi5s.2.1) A n c 64 (by omega) (by omega)⟩
    clear hi5 hi5s
    go_wp2
    go_loopg [7] ((nr + nd) / 64) (fun gk v7 wr => ∃ (h : V8) (cur : List Int) (A : Option Addr) (n c : Nat), v7 = .slice A n c ∧ n / 64 = gk ∧ n ≤ 200000 ∧ Aside0 (n ≤ c) ∧ Aside0 (wrapV h = h) ∧ Aside0 (feedL gk h cur = F) ∧ Aside0 (RawS wr A n cur) ∧ Aside0 (Below w.heap.size w wr) ∧ Aside0 (wr.heap[w.heap.size]? = some (.cells (stC H.l (.slice Ar nr cr) (m : Int)) 32 (0, 0))) ∧ Aside0 (wr.heap[w.heap.size + 1]? = some (.cells (stC (List.replicate 8 0) (.slice none 0 0) 0) 32 (0, 0))) ∧ Aside0 (wr.heap[g5]? = some (.cells h.u 67 (0, 0))) ∧ Aside0 (wr.heap[g6]? = some (.cells (us keysL) 69 (0, 0))))
    case atStart => exact ⟨H, _, A, _, c, rfl, rfl, by omega, ⟨HNC0.out⟩, HH, HF, ⟨RawS.of_B HRW.out⟩, HB, HBX, HZX, HK5, HK6⟩
    case round =>
      clear HRW HB HBX HZX HK5 HK6 HF HH
      obtain ⟨h, cur, A, n, c, rfl, hgk, hn2, HNC, HH, HF, HRW, HB, HBX, HZX, HK5, HK6⟩ := hrel
      by_cases hlt : (64 : Int) ≤ (n : Int)
      · obtain ⟨k, rfl⟩ : ∃ k, gk = k + 1 := ⟨gk - 1, by omega⟩
        have HCL := Aside0.mk HRW.out.1
        have hcut := HCUT.out A n c (by omega)
        obtain ⟨A2, hA2⟩ : ∃ A2, (if c = 64 then A else A.map (·.add 64)) = A2 := ⟨_, rfl⟩
        rw [hA2] at hcut
        have HA2 := Aside0.mk hA2
        clear hA2
        go_wp2_with (first | ((with_reducible refine gate_dst (N := 24) rfl ?_); refine load_ev (t := 67) (x := .tmp 5) (g := g5) rfl rfl rfl Try.underlying67 rfl HK5.out (by kernel_rfl) ?_) | fail)
        refine (digested_calls h g6 A n c cur _ HK6.out (HRW.out.C (by omega)) (by omega) HCL.out).mono ?_
        rintro e w2 ⟨rfl, hb2⟩
        have HB2 := Aside0.mk (below_step HB.out hb2)
        have HBX2 := Aside0.mk (blk_below HBX.out hb2)
        have HZX2 := Aside0.mk (blk_below HZX.out hb2)
        have HK52 := Aside0.mk (blk_below HK5.out hb2)
        have HK62 := Aside0.mk (blk_below HK6.out hb2)
        have HRW2 := Aside0.mk (HRW.out.move (fun g cur hg => blk_below hg hb2))
        clear HB HBX HZX HK5 HK6 HRW hb2
        go_wp2_with (first | ((with_reducible refine gate_store (t := 67) (p := 5) (v := .tmp 26) rfl ?_); refine store_row (t := 67) (p := 5) (y := .tmp 26) (g := g5) rfl rfl rfl rfl rfl HK52.out (by kernel_rfl) rfl (V8.u_one _) ?_; intro w5 hw5 ho5 hB5; have HW5 := Aside0.mk hw5; have HO5 := Aside0.mk ho5; have HB5 := Aside0.mk hB5; clear hw5 ho5 hB5))
        go_roundg k
        case measure => omega
        case rel =>
          refine ⟨blk h cur, cur.drop 64, _, _, _, rfl, by omega, by omega, ⟨by have := HNC.out; omega⟩, ⟨wrap_blk _ _⟩, HF, ⟨?_⟩, ⟨HB2.out.trans (HB5.out _ (by omega))⟩, ⟨(HO5.out _ (by omega)).trans HBX2.out⟩, ⟨(HO5.out _ (by omega)).trans HZX2.out⟩, HW5, ⟨(HO5.out _ (fun e => hne e.symm)).trans HK62.out⟩⟩
          rw [← HA2.out]
          refine (HRW2.out.drop (k := 64) (by omega) (by omega) HNC.out).move (fun g cs hg => ?_)
          rw [HO5.out g (fun e => ?_)]
          · exact hg
          · subst e
            rw [HK52.out] at hg
            injection hg with hg
            injection hg with h1 h2
            exact absurd h2 (by decide)
      · obtain rfl : gk = 0 := by omega
        obtain rfl : (h, cur) = F := HF.out
        clear hlt
        go_upto_region 5 with (fail)
        have hm9 : wr.cell? ⟨w.heap.size, 9, none⟩ = some (.int .i64 (m : Int)) := by rw [cell_at HBX.out]; rfl
        have hsum : wrap64 ((m : Int) + (nd : Int)) = ((m + nd : Nat) : Int) := by rw [Base.w64] <;> omega
        have hsum' : IntKind.i64.wrap ((m : Int) + (nd : Int)) = ((m + nd : Nat) : Int) := (i64_w _).trans hsum
        have HCUR := Aside0.mk HRW.out.1
        have HSZ : Aside0 (w.heap.size + 1 < wr.heap.size) := ⟨blk_lt HZX.out⟩
        have HG5L : Aside0 (g5 < wr.heap.size) := ⟨blk_lt HK5.out⟩
        go_cut [8] (fun v8 wc => ∃ (g8 : Nat) (A8 : Option Addr) (c8 : Nat), v8 = .pointer (some ⟨g8, 0, none⟩) ∧ w.heap.size + 1 < g8 ∧ g8 ≠ g5 ∧ Aside0 (wc.heap[w.heap.size + 1]? = some (.cells (stC (List.replicate 8 0) (.slice none 0 0) 0) 32 (0, 0))) ∧ Aside0 (wc.heap[g5]? = some (.cells h.u 67 (0, 0))) ∧ Aside0 (wc.heap[g8]? = some (.cells (stC (List.replicate 8 0) (.slice A8 n c8) ((m + nd : Nat) : Int)) 32 (0, 0))) ∧ Aside0 (RawM w.heap.size wc A8 n c8 cur) ∧ Aside0 (Below w.heap.size w wc))
        case first =>
          refine wp_region_inv (fun L a w1 => ∃ x8 x27 x28 x29 x30 x31 x32 x33 x34 : Value, a = ⟨#[.agg #[.int .i64 H.a, .int .i64 H.b, .int .i64 H.c, .int .i64 H.d, .int .i64 H.e, .int .i64 H.f, .int .i64 H.g, .int .i64 H.h, .slice Ar nr cr, .int .i64 (m : Int)], .slice Ad nd cd, .pointer (some ⟨w.heap.size, 0, none⟩), undef, .pointer (some ⟨w.heap.size + 1, 0, none⟩), .pointer (some ⟨g5, 0, none⟩), .pointer (some ⟨g6, 0, none⟩), .slice A n c, x8, undef, undef, u11, u12, u13, u14, u15, u16, u17, u18, .slice A n c, .int .i64 (n : Int), .bool (decide ((64 : Int) ≤ (n : Int))), u22, u23, u24, u25, u26, x27, x28, x29, x30, x31, x32, x33, x34, undef, undef, u37, u38, u39, u40, u41, u42, u43, u44, u45, u46], []⟩ ∧ Gx h Ar nr cr H m Ad nd cd A n c cur g5 w L x8 x27 x28 x29 x30 x31 x32 x33 x34 w1) (by kernel_rfl) (fore_of (by kernel_rfl)) ?g0 ?gstep ?gfin
          case g0 =>
            refine ⟨undef, u27, u28, u29, u30, u31, u32, u33, u34, rfl, ?_⟩
            exact {
              bw := below_drew HB.out
              hb := HBX.out
              hz := HZX.out
              h5 := HK5.out
              rw' := HRW.out
              k7 := fun h => by simp at h
              k9 := fun h => by simp at h
              k91 := fun h => by simp at h
              f0 := fun h => by simp at h
              f1 := fun h => by simp at h
              f2 := fun h => by simp at h
              f3 := fun h => by simp at h
              f4 := fun h => by simp at h
              f5 := fun h => by simp at h
              f6 := fun h => by simp at h
              f7 := fun h => by simp at h
              f8 := fun h => by simp at h }
          case gstep =>
            intro i o ho L a w1 hL hun hdep hI
            obtain ⟨x8, x27, x28, x29, x30, x31, x32, x33, x34, rfl, F⟩ := hI
            match i, ho, hun with
            | 0, ho, hun =>
              obtain rfl := Option.some.inj ho
              exact ⟨rfl, op_value (v := .slice A n c) (w' := w1) (by first | (go_simp; done) | (go_simp; rfl)) ⟨_, _, _, _, _, _, _, _, _, rfl, F.set0 hun rfl⟩⟩
            | 1, ho, hun =>
              obtain rfl := Option.some.inj ho
              have d0 := hdep ⟨0, .data⟩ (by simp) rfl
              obtain rfl := F.f0 d0
              refine ⟨rfl, op_call (f := 31) (args := #[.slice A n c]) (by first | (go_simp; done) | (go_simp; rfl)) (clone_calls A n c cur w1 (F.rw'.C (by omega)) F.rw'.1 (by omega)) ?_⟩
              rintro e w2 ⟨A8, c8, rfl, hr2, hb2⟩
              have hsz : w.heap.size + 1 < w1.heap.size := blk_lt F.hz
              exact ⟨_, rfl, _, _, _, _, _, _, _, _, _, rfl, (F.move (hb2.mono F.bw.size) (keep_of hb2)).set1 hun ⟨A8, c8, rfl, RawM.of_R hr2 F.rw'.1 hsz⟩⟩
            | 2, ho, hun =>
              obtain rfl := Option.some.inj ho
              exact ⟨rfl, op_value (v := .pointer (some ⟨w.heap.size, 9, none⟩)) (w' := w1) (by first | (go_simp; done) | (go_simp; rfl)) ⟨_, _, _, _, _, _, _, _, _, rfl, F.set2 hun rfl⟩⟩
            | 3, ho, hun =>
              obtain rfl := Option.some.inj ho
              have d2 := hdep ⟨2, .data⟩ (by simp) rfl
              obtain rfl := F.f2 d2
              have hc9 : w1.cell? ⟨w.heap.size, 9, none⟩ = some (.int .i64 (m : Int)) := by rw [cell_at F.hb]; rfl
              exact ⟨rfl, op_value (v := .int .i64 (m : Int)) (w' := w1) (by go_simp) ⟨_, _, _, _, _, _, _, _, _, rfl, F.set3 hun rfl⟩⟩
            | 4, ho, hun =>
              obtain rfl := Option.some.inj ho
              exact ⟨rfl, op_value (v := .slice Ad nd cd) (w' := w1) (by first | (go_simp; done) | (go_simp; rfl)) ⟨_, _, _, _, _, _, _, _, _, rfl, F.set4 hun rfl⟩⟩
            | 5, ho, hun =>
              obtain rfl := Option.some.inj ho
              have d4 := hdep ⟨4, .data⟩ (by simp) rfl
              obtain rfl := F.f4 d4
              exact ⟨rfl, op_value (v := .int .i64 (nd : Int)) (w' := w1) (by first | (go_simp; done) | (go_simp; rfl)) ⟨_, _, _, _, _, _, _, _, _, rfl, F.set5 hun rfl⟩⟩
            | 6, ho, hun =>
              obtain rfl := Option.some.inj ho
              have d3 := hdep ⟨3, .data⟩ (by simp) rfl
              have d5 := hdep ⟨5, .data⟩ (by simp) rfl
              obtain rfl := F.f3 d3
              obtain rfl := F.f5 d5
              exact ⟨rfl, op_value (v := .int .i64 ((m + nd : Nat) : Int)) (w' := w1) (by first | (go_simp; done) | (go_simp; rfl) | (go_simp; omega)) ⟨_, _, _, _, _, _, _, _, _, rfl, F.set6 hun rfl⟩⟩
            | 7, ho, hun =>
              obtain rfl := Option.some.inj ho
              have d1 := hdep ⟨1, .data⟩ (by simp) rfl
              have d6 := hdep ⟨6, .data⟩ (by simp) rfl
              obtain rfl := F.f6 d6
              obtain ⟨A8, c8, rfl, _⟩ := F.f1 d1
              exact ⟨rfl, op_value (v := .agg (stC (List.replicate 8 0) (.slice A8 n c8) ((m + nd : Nat) : Int))) (w' := w1) (by first | (go_simp; done) | (go_simp; rfl)) ⟨_, _, _, _, _, _, _, _, _, rfl, F.set7 hun rfl d1⟩⟩
            | 8, ho, hun =>
              obtain rfl := Option.some.inj ho
              have hsz : w.heap.size + 1 < w1.heap.size := blk_lt F.hz
              have hb2 : Below w1.heap.size w1 (w1.alloc (.cells (stC (List.replicate 8 0) (.slice none 0 0) 0) 32)) := below_alloc (Below.refl _ _) _
              exact ⟨rfl, op_value (v := .pointer (some ⟨w1.heap.size, 0, none⟩)) (w' := w1.alloc (.cells (stC (List.replicate 8 0) (.slice none 0 0) 0) 32)) (by first | (go_simp; done) | (go_simp; rfl)) ⟨_, _, _, _, _, _, _, _, _, rfl, (F.move (hb2.mono F.bw.size) (keep_of hb2)).set8 hun ⟨_, _, rfl, hsz, heap_alloc_last _ _, by rw [stC_size]; simp⟩⟩⟩
            | 9, ho, hun =>
              obtain rfl := Option.some.inj ho
              have d8 := hdep ⟨8, .data⟩ (by simp) rfl
              have d7 := hdep ⟨7, .data⟩ (by simp) rfl
              have d1 := F.k7 d7
              obtain ⟨g, c0, rfl, h1, h2, h3, h4⟩ := F.f8 d8
              obtain rfl := F.f7 d7
              obtain ⟨A8, c8, rfl, _⟩ := F.f1 d1
              exact ⟨rfl, op_store (t := 32) (p := 8) (y := .tmp 34) (g := g) (c' := stC (List.replicate 8 0) (.slice A8 n c8) ((m + nd : Nat) : Int)) rfl rfl rfl h2 (by rw [stC_size]; kernel_rfl) (by rw [h3, stC_size]; simp) (stC_one _ _ _ _ _) (fun w2 ha hk hB => ⟨_, _, _, _, _, _, _, _, _, rfl, F.set9 hun d8 d1 rfl h1 h2 ha hk (hB _ (by omega))⟩)⟩
            | k + 10, ho, hun => simp at ho
          case gfin =>
            intro L a w1 hall hI
            obtain ⟨x8, x27, x28, x29, x30, x31, x32, x33, x34, rfl, F⟩ := hI
            have hal : ∀ j, j < 10 → L.getD j false = true := hall
            obtain ⟨A8, c8, rfl, hraw⟩ := F.f1 (hal 1 (by decide))
            obtain ⟨g8, cs8, rfl, h81, h82, h83, h84⟩ := F.f8 (hal 8 (by decide))
            obtain rfl := h84 (hal 9 (by decide))
            have hne8 : g8 ≠ g5 := fun e => by
              subst e
              have h := F.h5
              rw [h82] at h
              injection h with h
              injection h with h1 h2
              exact absurd h2 (by decide)
            have HBW := Aside0.mk F.bw
            have HZW := Aside0.mk F.hz
            have H5W := Aside0.mk F.h5
            have H8W := Aside0.mk h82
            have HRW8 := Aside0.mk hraw
            clear F h82 hraw hall hal h83 h84
            dsimp only
            go_wp2
            go_meet
            case rel => exact ⟨g8, A8, c8, rfl, h81, hne8, HZW, H5W, H8W, HRW8, HBW⟩
        case rest =>
          obtain ⟨g8, A8, c8, rfl, h81, hne8, HZW, H5W, H8W, HRW8, HBW⟩ := hcut
          clear HRW HB HBX HZX HK5 HK6
          go_wp2_with ((with_reducible refine gate_dst (N := 35) rfl ?_); refine load_ev (t := 67) (x := .tmp 5) (g := g5) rfl rfl rfl Try.underlying67 rfl H5W.out (by kernel_rfl) ?_)
          go_loopg [36] 8 (fun gk v36 w5 => ∃ t : Nat, t + gk = 8 ∧ v36 = .int .i64 (t : Int) ∧ Aside0 (w5.heap[w.heap.size + 1]? = some (.cells (stC (List.replicate 8 0) (.slice none 0 0) 0) 32 (0, 0))) ∧ Aside0 (w5.heap[g8]? = some (.cells (stC (fillL (fun i => h.l.getD i 0) 8 t) (.slice A8 n c8) ((m + nd : Nat) : Int)) 32 (0, 0))) ∧ Aside0 (RawM w.heap.size w5 A8 n c8 cur) ∧ Aside0 (Below w.heap.size w w5))
          case atStart => exact ⟨0, rfl, rfl, HZW, H8W, HRW8, HBW⟩
          case round =>
            clear HZW H5W H8W HRW8 HBW
            obtain ⟨t, ht, rfl, HZW, H8W, HRW8, HBW⟩ := hrel
            by_cases hlt : (t : Int) < 8
            · have ht2 : t < 8 := by omega
              have cw := cell_at H8W.out t
              rw [stC_at _ _ _ _ (by rw [fillL_length]; omega)] at cw
              have cf := free_at H8W.out t
              obtain ⟨x, hx⟩ : ∃ x, h.l.getD t 0 = x := ⟨_, rfl⟩
              have hx0 : 0 ≤ x := by rw [← hx]; exact (l_range HH.out t).1
              have hx1 : x < 4294967296 := by rw [← hx]; exact (l_range HH.out t).2
              have HX := Aside0.mk hx
              have HIX : Aside0 (∀ {ops : Array Oper} {rest : List Oper} {o : Oper} {a : Act} {Q : Exit → Act → World → Prop} {w : World}, o.guard = none → o.op = .index 67 (.tmp 35) (.tmp 36) → a.eval (.tmp 35) = .agg (us h.l) → a.eval (.tmp 36) = .int .i64 (t : Int) → wpList Try.prog ops Q rest (a.put o.dst (.int .u32 x)) w → wpList Try.prog ops Q (o :: rest) a w) := ⟨fun h1 h2 h3 h4 h5 => ev_index67 h.l t h1 h2 h3 h4 ht2 rfl (by rw [hx]; exact h5)⟩
              clear hx
              go_wp2_with ((with_reducible refine gate_dst (N := 39) rfl ?_); refine HIX.out rfl rfl rfl rfl ?_)
              go_roundg (8 - (t + 1))
              case measure => omega
              case rel =>
                refine ⟨t + 1, by omega, by go_num, ⟨(heap_other _ _ _ _ _ (by omega)).trans HZW.out⟩, ⟨?_⟩, ⟨HRW8.out.move (fun g cs hg => ?_)⟩, ⟨below_set HBW.out (by omega)⟩⟩
                · refine (heap_set H8W.out _ _).trans ?_
                  rw [stC_set _ _ _ _ _ (by rw [fillL_length]; omega), fillL, HX.out]
                · rw [heap_other _ _ _ _ _ (fun e => ?_)]
                  · exact hg
                  · subst e
                    rw [H8W.out] at hg
                    injection hg with hg
                    injection hg with h1 h2
                    exact absurd h2 (by decide)
            · obtain rfl : t = 8 := by omega
              clear hlt
              have HK : Aside0 (fillL (fun i => h.l.getD i 0) 8 8 = h.l) := ⟨by rw [fillL_full, range_getD h.l (fun x => x) 8 rfl, List.map_id']⟩
              rw [HK.out] at H8W
              go_wp2_with (first | ((with_reducible refine gate_dst (N := 46) rfl ?_); refine load_ev (t := 32) (x := .tmp 8) (g := g8) rfl rfl rfl Try.underlying32 rfl H8W.out (by rw [stC_size]; kernel_rfl) ?_) | ((with_reducible refine gate_store (t := 32) (p := 4) (v := .tmp 46) rfl ?_); refine store_row (t := 32) (p := 4) (y := .tmp 46) (g := w.heap.size + 1) rfl rfl rfl rfl rfl HZW.out (by rw [stC_size]; kernel_rfl) (by rw [stC_size, stC_size]; rfl) (stC_one _ _ _ _ _) ?_; intro w6 hw6 ho6 hB6))
              refine ret_cell rfl Try.underlying32 rfl (by rw [stC_size]; kernel_rfl) rfl hw6 rfl ?_
              have hlen : cur.length = n := HRW8.out.1
              refine ⟨A8, c8, by rw [hlen]; first | rfl | simp, ?_, HBW.out.trans (hB6 _ (by omega))⟩
              rw [hlen]
              refine HRW8.out.move (fun g cs hg => ?_)
              rw [ho6 g (fun e => ?_)]
              · exact hg
              · subst e
                rw [HZW.out] at hg
                injection hg with hg
                injection hg with h1 h2
                exact absurd h2 (by decide)
theorem fed_calls (H : V8) (Ar : Option Addr) (nr cr : Nat) (rs : List Int) (m : Nat) (Ad : Option Addr) (nd cd : Nat) (ds : List Int) (w : World) (hH : wrapV H = H) (hr : (Kd.int .u8).C w Ar nr rs) (er : rs.length = nr) (hd : (Kd.int .u8).C w Ad nd ds) (ed : ds.length = nd) (lr : nr ≤ 100000) (ld : nd ≤ 100000) (lm : m ≤ 100000) :
    Calls Try.prog 40 #[.agg (stC H.l (.slice Ar nr cr) (m : Int)), .slice Ad nd cd] w fun e w' => ∃ (A : Option Addr) (c : Nat), e = .returned (.agg (stC (feedL ((nr + nd) / 64) H (rs ++ ds)).1.l (.slice A (feedL ((nr + nd) / 64) H (rs ++ ds)).2.length c) ((m + nd : Nat) : Int))) ∧ RawB w.heap.size w' A (feedL ((nr + nd) / 64) H (rs ++ ds)).2.length (feedL ((nr + nd) / 64) H (rs ++ ds)).2 ∧ Below w.heap.size w w' := by
  refine (fedM_calls H Ar nr cr rs m Ad nd cd ds w hH hr er hd ed lr ld lm).mono ?_
  rintro e w' ⟨A, c, rfl, h, hb⟩
  exact ⟨A, c, rfl, h.B, hb⟩
end Go.Proofs.Ytgfhbkhbnmgogaa.GFnExactHmac.Hand
