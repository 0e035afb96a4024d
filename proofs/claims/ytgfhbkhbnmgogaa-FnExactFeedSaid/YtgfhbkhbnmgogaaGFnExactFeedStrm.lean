import Derived.Test.YtgfhbkhbnmgogaaGFnExactHmacFed
import Derived.Test.YtgfhbkhbnmgogaaGFnExactHmacDgst
import Derived.Test.YtgfhbkhbnmgogaaGFnExactHmacSFed
import Derived.Test.YtgfhbkhbnmgogaaGFnExactFeedx2
namespace Go.Proofs.Ytgfhbkhbnmgogaa.GFnExactFeed.Hand
open Go.RowKit Go.Proofs.YtgfhbkhbnmgogaaW.PrintWords Go.Proofs.YtgfhbkhbnmgogaaW.PrintLast Go.Proofs.YtgfhbkhbnmgogaaW.PrintMore Go.Proofs.Ytgfhbkhbnmgogaa.GFnExactHmac.Hand
set_option linter.unusedVariables false
set_option linter.unusedSimpArgs false
/-! ### the laws' streams: toIntA8 (38), eqIntA8 (41), szStream (14), toStream (16), eqStream (18), markStream (19), heldStream (20) -/
theorem is_size (l : List Int) : (is l).size = l.length := by simp [is]
theorem is_one (l : List Int) : (is l).all (·.oneCell') = true := by
  rw [Array.all_eq_true]
  intro i hi
  simp [is, Value.oneCell']
set_option maxHeartbeats 8000000 in
set_option maxRecDepth 100000 in
theorem toA_calls (H : V8) (w : World) : Calls Try.prog 38 #[.agg (is H.l)] w fun e w' => e = .returned (.agg (is H.l)) ∧ Below w.heap.size w w' := by
  show Calls Try.prog 38 #[.agg #[.int .i64 H.a, .int .i64 H.b, .int .i64 H.c, .int .i64 H.d, .int .i64 H.e, .int .i64 H.f, .int .i64 H.g, .int .i64 H.h]] w _
  go_enter Try.func38, Try.ntmps38
  go_wp2
  go_loopg [4] 8 (fun gk v4 wr => ∃ t : Nat, t + gk = 8 ∧ v4 = .int .i64 (t : Int) ∧ Aside0 (wr.heap[w.heap.size]? = some (.cells (is H.l) 28 (0, 0))) ∧ Aside0 (wr.heap[w.heap.size + 1]? = some (.cells (is (List.replicate 8 0)) 28 (0, 0))) ∧ Aside0 (wr.heap[w.heap.size + 2]? = some (.cells (is (fillL (fun i => H.l.getD i 0) 8 t)) 28 (0, 0))) ∧ Aside0 (Below w.heap.size w wr))
  case atStart => exact ⟨0, rfl, rfl, ⟨blk_alloc (blk_alloc (heap_alloc_last _ _) _) _⟩, ⟨blk_alloc (alloc_at (size_alloc _ _) _) _⟩, ⟨alloc_at (by rw [size_alloc, size_alloc]) _⟩, ⟨below_alloc (below_alloc (below_alloc (Below.refl _ _) _) _) _⟩⟩
  case round =>
    obtain ⟨t, ht, rfl, HX, HZ, HO, HB⟩ := hrel
    by_cases hlt : (t : Int) < 8
    · have ht2 : t < 8 := by omega
      have cx := cell_at HX.out t
      rw [is_at _ _ (by rw [V8.l_length]; omega)] at cx
      have cw := cell_at HO.out t
      rw [is_at _ _ (by rw [fillL_length]; omega)] at cw
      have cf := free_at HO.out t
      obtain ⟨x, hx⟩ : ∃ x, H.l.getD t 0 = x := ⟨_, rfl⟩
      rw [hx] at cx
      have HXX := Aside0.mk hx
      clear hx
      go_wp2
      go_roundg (8 - (t + 1))
      case measure => omega
      case rel =>
        refine ⟨t + 1, by omega, by go_num, ⟨(heap_other _ _ _ _ _ (by omega)).trans HX.out⟩, ⟨(heap_other _ _ _ _ _ (by omega)).trans HZ.out⟩, ⟨?_⟩, ⟨below_set HB.out (by omega)⟩⟩
        refine (heap_set HO.out _ _).trans ?_
        rw [is_set, fillL, HXX.out]
    · obtain rfl : t = 8 := by omega
      clear hlt
      have HK : Aside0 (fillL (fun i => H.l.getD i 0) 8 8 = H.l) := ⟨by rw [fillL_full, range_getD H.l (fun x => x) 8 rfl, List.map_id']⟩
      rw [HK.out] at HO
      go_wp2_with (first | ((with_reducible refine gate_dst (N := 14) rfl ?_); refine load_ev (t := 28) (x := .tmp 3) (g := w.heap.size + 2) rfl rfl rfl Try.underlying28 rfl HO.out (by rw [is_size]; kernel_rfl) ?_) | ((with_reducible refine gate_store (t := 28) (p := 2) (v := .tmp 14) rfl ?_); refine store_row (t := 28) (p := 2) (y := .tmp 14) (g := w.heap.size + 1) rfl rfl rfl rfl rfl HZ.out (by rw [is_size]; kernel_rfl) (by rw [is_size, is_size]; rfl) (is_one _) ?_; intro w6 hw6 ho6 hB6))
      refine ret_cell rfl Try.underlying28 rfl (by rw [is_size]; kernel_rfl) rfl hw6 rfl ?_
      exact ⟨rfl, HB.out.trans (hB6 _ (by omega))⟩
set_option maxHeartbeats 8000000 in
set_option maxRecDepth 100000 in
theorem eqA_calls (H : V8) (w : World) : Calls Try.prog 41 #[.agg (is H.l), .agg (is H.l)] w fun e w' => e = .returned (.bool true) ∧ Below w.heap.size w w' := by
  show Calls Try.prog 41 #[.agg #[.int .i64 H.a, .int .i64 H.b, .int .i64 H.c, .int .i64 H.d, .int .i64 H.e, .int .i64 H.f, .int .i64 H.g, .int .i64 H.h], .agg #[.int .i64 H.a, .int .i64 H.b, .int .i64 H.c, .int .i64 H.d, .int .i64 H.e, .int .i64 H.f, .int .i64 H.g, .int .i64 H.h]] w _
  go_enter Try.func41, Try.ntmps41
  go_wp2
  go_loopg [5] 8 (fun gk v5 wr => ∃ t : Nat, t + gk = 8 ∧ v5 = .int .i64 (t : Int) ∧ Aside0 (wr.heap[w.heap.size]? = some (.cells (is H.l) 28 (0, 0))) ∧ Aside0 (wr.heap[w.heap.size + 1]? = some (.cells (is H.l) 28 (0, 0))) ∧ Aside0 (Below w.heap.size w wr))
  case atStart => exact ⟨0, rfl, rfl, ⟨blk_alloc (heap_alloc_last _ _) _⟩, ⟨alloc_at (size_alloc _ _) _⟩, ⟨below_alloc (below_alloc (Below.refl _ _) _) _⟩⟩
  case round =>
    obtain ⟨t, ht, rfl, HX, HO, HB⟩ := hrel
    by_cases hlt : (t : Int) < 8
    · have ht2 : t < 8 := by omega
      have cx := cell_at HX.out t
      rw [is_at _ _ (by rw [V8.l_length]; omega)] at cx
      have cy := cell_at HO.out t
      rw [is_at _ _ (by rw [V8.l_length]; omega)] at cy
      obtain ⟨x, hx⟩ : ∃ x, H.l.getD t 0 = x := ⟨_, rfl⟩
      rw [hx] at cx cy
      clear hx
      have hne : (x != x) = false := by simp
      go_wp2
      go_quiet (fail)
      go_wp2
      go_roundg (8 - (t + 1))
      case measure => omega
      case rel => exact ⟨t + 1, by omega, by go_num, ⟨HX.out⟩, ⟨HO.out⟩, ⟨by repeat (first | exact HB.out | apply pw_below_drewN | apply below_drew)⟩⟩
    · obtain rfl : t = 8 := by omega
      clear hlt
      go_wp2
      go_ret
      exact ⟨rfl, HB.out⟩
set_option maxHeartbeats 8000000 in
set_option maxRecDepth 100000 in
theorem sz_calls (H : V8) (A : Option Addr) (n c : Nat) (rs : List Int) (m : Int) (w : World) (hC : (Kd.int .u8).C w A n rs) (en : rs.length = n) (hc : n ≤ c) (hl : n ≤ maxLen) :
    Calls Try.prog 14 #[.agg (stC H.l (.slice A n c) m), .int .i64 1048576] w fun e w' => e = .returned (.int .i64 (if n ≤ 1048576 then 1048576 - (n : Int) else -1)) ∧ Below w.heap.size w w' := by
  have HS : Aside0 (∀ W : World, (Kd.int .u8).C W A n rs → Calls Try.prog 34 #[.slice A n c, .int .i64 1048576] W fun e w' => e = .returned (.int .i64 (if n ≤ 1048576 then 1048576 - (n : Int) else -1)) ∧ Drawn0 W w') := ⟨by
    intro W h
    subst en
    refine laws_szByteS.calls A c rs 1048576 _ W h hc ?_
    unfold laws_szByteS.f
    have hm : rs.length ≤ 9223372036854775807 := by unfold maxLen at hl; omega
    rw [Base.w64 (by omega) (by omega)]
    by_cases h : rs.length ≤ 1048576
    · rw [if_pos h, if_neg (by omega)]
    · rw [if_neg h, if_pos (by omega)]⟩
  have HC := Aside0.mk hC
  clear hC
  obtain ⟨z, hz⟩ : ∃ z, (if n ≤ 1048576 then 1048576 - (n : Int) else -1) = z := ⟨_, rfl⟩
  rw [hz] at HS ⊢
  have hz1 : z = -1 ∨ 0 ≤ z := by rw [← hz]; by_cases h : n ≤ 1048576 <;> simp [h] <;> omega
  clear hz
  show Calls Try.prog 14 #[.agg #[.int .i64 H.a, .int .i64 H.b, .int .i64 H.c, .int .i64 H.d, .int .i64 H.e, .int .i64 H.f, .int .i64 H.g, .int .i64 H.h, .slice A n c, .int .i64 m], .int .i64 1048576] w _
  rcases hz1 with rfl | hz1
  · go_enter Try.func14, Try.ntmps14
    go_wp2_with fail
    refine (HS.out _ (Kd.C_alloc HC.out _)).mono ?_
    rintro e w1 ⟨rfl, n1, rfl⟩
    go_wp2
    go_ret
    exact ⟨rfl, pw_below_drewN (below_alloc (Below.refl _ _) _) _⟩
  · go_enter Try.func14, Try.ntmps14
    go_wp2_with fail
    refine (HS.out _ (Kd.C_alloc HC.out _)).mono ?_
    rintro e w1 ⟨rfl, n1, rfl⟩
    go_wp2
    go_ret
    exact ⟨rfl, pw_below_drewN (below_alloc (Below.refl _ _) _) _⟩
theorem toA_calls2 (H : V8) (w : World) : Calls Try.prog 38 #[.agg #[.int .i64 H.a, .int .i64 H.b, .int .i64 H.c, .int .i64 H.d, .int .i64 H.e, .int .i64 H.f, .int .i64 H.g, .int .i64 H.h]] w fun e w' => e = .returned (.agg #[.int .i64 H.a, .int .i64 H.b, .int .i64 H.c, .int .i64 H.d, .int .i64 H.e, .int .i64 H.f, .int .i64 H.g, .int .i64 H.h]) ∧ Below w.heap.size w w' := toA_calls H w
theorem box_other {w : World} {g k : Nat} {h' : V8} (hk : k ≠ g) : ((((((((w.setCell ⟨g, 0, none⟩ (.int .i64 h'.a)).setCell ⟨g, 1, none⟩ (.int .i64 h'.b)).setCell ⟨g, 2, none⟩ (.int .i64 h'.c)).setCell ⟨g, 3, none⟩ (.int .i64 h'.d)).setCell ⟨g, 4, none⟩ (.int .i64 h'.e)).setCell ⟨g, 5, none⟩ (.int .i64 h'.f)).setCell ⟨g, 6, none⟩ (.int .i64 h'.g)).setCell ⟨g, 7, none⟩ (.int .i64 h'.h)).heap[k]? = w.heap[k]? := by
  rw [heap_other _ _ _ _ _ hk, heap_other _ _ _ _ _ hk, heap_other _ _ _ _ _ hk, heap_other _ _ _ _ _ hk, heap_other _ _ _ _ _ hk, heap_other _ _ _ _ _ hk, heap_other _ _ _ _ _ hk, heap_other _ _ _ _ _ hk]
abbrev KB : Kd Int := Kd.int .u8
theorem toB_calls (k : Nat) (A : Option Addr) (n c : Nat) (rs : List Int) (w : World) (hC : KB.C w A n rs) (en : rs.length = n) (hc : n ≤ c) (hf : laws_toByteS.f k rs = some rs) :
    Calls Try.prog 9 #[.slice A n c] w fun e w' => ∃ (A' : Option Addr) (c' : Nat), e = .returned (.slice A' n c') ∧ n ≤ c' ∧ Aside0 (KB.R 5 w' w.heap.size (fun _ => True) (.slice A' n c') rs) ∧ Aside0 (Below w.heap.size w w') := by
  subst en
  refine (laws_toByteS.calls k A c rs rs w hC hc hf).mono ?_
  rintro e w' ⟨v, rfl, hr, hb⟩
  obtain ⟨A', c', rfl⟩ := Kd.R_slice hr
  exact ⟨A', c', rfl, (Kd.R_reads' hr).2.1, ⟨hr⟩, ⟨hb⟩⟩
theorem R_own {w : World} {base : Nat} {ok : Nat → Prop} {v : Value} {xs : List Int} (h : KB.R 5 w base ok v xs) : KB.R 5 w base (fun k => base ≤ k ∧ k < w.heap.size) v xs := Kd.R_mono (Kd.R_bound h) (fun k hk => ⟨hk.2.1, hk.2.2.1⟩)
set_option maxHeartbeats 8000000 in
set_option maxRecDepth 100000 in
theorem toS_calls (k : Nat) (H : V8) (A : Option Addr) (n c : Nat) (rs : List Int) (m : Int) (w : World) (hC : KB.C w A n rs) (en : rs.length = n) (hc : n ≤ c) (hf : laws_toByteS.f k rs = some rs) :
    Calls Try.prog 16 #[.agg (stC H.l (.slice A n c) m)] w fun e w' => ∃ (A' : Option Addr) (c' : Nat), e = .returned (.agg (stC H.l (.slice A' n c') m)) ∧ n ≤ c' ∧ Aside0 (KB.R 5 w' w.heap.size (fun k => w.heap.size ≤ k ∧ k < w'.heap.size) (.slice A' n c') rs) ∧ Aside0 (Below w.heap.size w w') := by
  have HC := Aside0.mk hC
  have EN := Aside0.mk en
  have HF := Aside0.mk hf
  clear hC en hf
  show Calls Try.prog 16 #[.agg #[.int .i64 H.a, .int .i64 H.b, .int .i64 H.c, .int .i64 H.d, .int .i64 H.e, .int .i64 H.f, .int .i64 H.g, .int .i64 H.h, .slice A n c, .int .i64 m]] w _
  go_enter Try.func16, Try.ntmps16
  go_wp2_with fail
  refine (toA_calls2 H _).mono ?_
  rintro e w1 ⟨rfl, hb1⟩
  have hx : w1.heap[w.heap.size]? = some (.cells (stC H.l (.slice A n c) m) 30 (0, 0)) := blk_below (blk_alloc (blk_alloc (heap_alloc_last _ _) _) _) hb1
  have hz : w1.heap[w.heap.size + 1]? = some (.cells (stC (List.replicate 8 0) (.slice none 0 0) 0) 32 (0, 0)) := blk_below (blk_alloc (alloc_at (size_alloc _ _) _) _) hb1
  have ho : w1.heap[w.heap.size + 1 + 1]? = some (.cells (stC (V8.l ⟨0, 0, 0, 0, 0, 0, 0, 0⟩) (.slice none 0 0) 0) 32 (0, 0)) := blk_below (alloc_at (by rw [size_alloc, size_alloc]) _) hb1
  have HB1 := Aside0.mk (below_step (below_alloc (below_alloc (below_alloc (Below.refl w.heap.size w) _) _) _) hb1)
  have q8 : w1.cell? ⟨w.heap.size, 8, none⟩ = some (.slice A n c) := cell_at hx 8
  have q9 : w1.cell? ⟨w.heap.size, 9, none⟩ = some (.int .i64 m) := cell_at hx 9
  obtain ⟨⟨r0, r1, r2, r3, r4, r5, r6, r7, r8, r9⟩, ⟨f0, f1, f2, f3, f4, f5, f6, f7, f8, f9⟩⟩ := stC_facts ho
  have HX := Aside0.mk hx
  have HZ := Aside0.mk hz
  have HO := Aside0.mk ho
  clear hb1 hx hz ho
  go_wp2_with fail
  clear r0 r1 r2 r3 r4 r5 r6 r7 r8 r9 f0 f1 f2 f3 f4 f5 f6 f7 f8 f9 q8 q9
  obtain ⟨w2, hw2⟩ : ∃ x, ((((((((w1.setCell ⟨w.heap.size + 1 + 1, 0, none⟩ (.int .i64 H.a)).setCell ⟨w.heap.size + 1 + 1, 1, none⟩ (.int .i64 H.b)).setCell ⟨w.heap.size + 1 + 1, 2, none⟩ (.int .i64 H.c)).setCell ⟨w.heap.size + 1 + 1, 3, none⟩ (.int .i64 H.d)).setCell ⟨w.heap.size + 1 + 1, 4, none⟩ (.int .i64 H.e)).setCell ⟨w.heap.size + 1 + 1, 5, none⟩ (.int .i64 H.f)).setCell ⟨w.heap.size + 1 + 1, 6, none⟩ (.int .i64 H.g)).setCell ⟨w.heap.size + 1 + 1, 7, none⟩ (.int .i64 H.h)) = x := ⟨_, rfl⟩
  rw [hw2]
  have HX2 : Aside0 (w2.heap[w.heap.size]? = some (.cells (stC H.l (.slice A n c) m) 30 (0, 0))) := ⟨by rw [← hw2, box_other (by omega)]; exact HX.out⟩
  have HZ2 : Aside0 (w2.heap[w.heap.size + 1]? = some (.cells (stC (List.replicate 8 0) (.slice none 0 0) 0) 32 (0, 0))) := ⟨by rw [← hw2, box_other (by omega)]; exact HZ.out⟩
  have HO2 : Aside0 (w2.heap[w.heap.size + 1 + 1]? = some (.cells (stC H.l (.slice none 0 0) 0) 32 (0, 0))) := ⟨by rw [← hw2]; exact stC_box HO.out⟩
  have HB2 : Aside0 (Below w.heap.size w w2) := ⟨by
    rw [← hw2]
    repeat refine below_set ?_ (by omega)
    exact HB1.out⟩
  have HS2 : Aside0 (w.heap.size + 1 + 1 < w2.heap.size) := ⟨blk_lt HO2.out⟩
  clear hw2 HX HZ HO HB1
  refine (toB_calls k A n c rs w2 (Kd.C_below HC.out HB2.out) EN.out hc HF.out).mono ?_
  rintro e w3 ⟨A', c', rfl, hc', HR, HB⟩
  have hx := blk_below HX2.out HB.out
  have hz := blk_below HZ2.out HB.out
  have ho := blk_below HO2.out HB.out
  have HB3 := Aside0.mk (below_step HB2.out HB.out)
  obtain ⟨⟨_, _, _, _, _, _, _, _, r8, r9⟩, ⟨_, _, _, _, _, _, _, _, f8, f9⟩⟩ := stC_facts ho
  have q9 : w3.cell? ⟨w.heap.size, 9, none⟩ = some (.int .i64 m) := cell_at hx 9
  have HZ3 := Aside0.mk hz
  have HO3 := Aside0.mk ho
  clear hx hz ho HX2 HZ2 HO2
  go_wp2_with ((with_reducible refine gate_dst (N := 15) rfl ?_); refine halt_ ?_)
  unfold Halt_
  obtain ⟨w4, hw4⟩ : ∃ x, (w3.setCell ⟨w.heap.size + 1 + 1, 8, none⟩ (.slice A' n c')).setCell ⟨w.heap.size + 1 + 1, 9, none⟩ (.int .i64 m) = x := ⟨_, rfl⟩
  rw [hw4]
  have HO4 : Aside0 (w4.heap[w.heap.size + 1 + 1]? = some (.cells (stC H.l (.slice A' n c') m) 32 (0, 0))) := ⟨by
    rw [← hw4, heap_set (heap_set HO3.out 8 _) 9 _, stC_set8 _ _ _ _ (V8.l_length _), stC_set9 _ _ _ _ (V8.l_length _)]⟩
  have HZ4 : Aside0 (w4.heap[w.heap.size + 1]? = some (.cells (stC (List.replicate 8 0) (.slice none 0 0) 0) 32 (0, 0))) := ⟨by rw [← hw4, heap_other _ _ _ _ _ (by omega), heap_other _ _ _ _ _ (by omega)]; exact HZ3.out⟩
  have HB4 : Aside0 (Below w.heap.size w w4) := ⟨by rw [← hw4]; exact below_set (below_set HB3.out (by omega)) (by omega)⟩
  have hs2 : w.heap.size + 1 + 1 < w2.heap.size := HS2.out
  have HR4 : Aside0 (KB.R 5 w4 w2.heap.size (fun k => w2.heap.size ≤ k ∧ k < w3.heap.size) (.slice A' n c') rs) := ⟨Kd.R_step (R_own HR.out) (fun k ho hlt => by rw [← hw4, heap_other _ _ _ _ _ (by omega), heap_other _ _ _ _ _ (by omega)])⟩
  have HS4 : Aside0 (w3.heap.size = w4.heap.size) := ⟨by rw [← hw4, size_set, size_set]⟩
  clear hw4 HO3 HZ3 HB3 HR r8 r9 f8 f9 q9
  go_wp2_with (first | ((with_reducible refine gate_dst (N := 15) rfl ?_); refine load_ev (t := 32) (x := .tmp 3) (g := w.heap.size + 1 + 1) rfl rfl rfl Try.underlying32 rfl HO4.out (by rw [stC_size]; kernel_rfl) ?_) | ((with_reducible refine gate_store (t := 32) (p := 2) (v := .tmp 15) rfl ?_); refine store_row (t := 32) (p := 2) (y := .tmp 15) (g := w.heap.size + 1) rfl rfl rfl rfl rfl HZ4.out (by rw [stC_size]; kernel_rfl) (by rw [stC_size, stC_size]; rfl) (stC_one _ _ _ _ _) ?_; intro w6 hw6 ho6 hB6))
  refine ret_cell rfl Try.underlying32 rfl (by rw [stC_size]; kernel_rfl) rfl hw6 rfl ?_
  have hb6 := hB6 w.heap.size (by omega)
  have hsz := hb6.size
  refine ⟨A', c', rfl, hc', ⟨?_⟩, ⟨HB4.out.trans hb6⟩⟩
  refine Kd.R_mono (Kd.R_lower (Kd.R_step HR4.out (fun k hk hlt => ho6 k (by omega))) (by omega)) (fun k hk => ?_)
  have := HS4.out
  have := HB4.out.size
  omega
end Go.Proofs.Ytgfhbkhbnmgogaa.GFnExactFeed.Hand
