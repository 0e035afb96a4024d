import Derived.Test.YtgfhbkhbnmgogaaGFnExactFeedDgf
namespace Go.Proofs.Ytgfhbkhbnmgogaa.GFnExactFeed.Hand
open Go.RowKit Go.Proofs.YtgfhbkhbnmgogaaW.PrintWords Go.Proofs.YtgfhbkhbnmgogaaW.PrintLast Go.Proofs.YtgfhbkhbnmgogaaW.PrintMore Go.Proofs.Ytgfhbkhbnmgogaa.GFnExactHmac.Hand
set_option linter.unusedVariables false
set_option linter.unusedSimpArgs false
/-! ### impl.Feed (17), spec.Feed (15) -/
theorem results_cell2 {fn : Func} {p q : Tmp} {ty : TypeId} (h : fn.results = #[.cell p ty, .tmp q]) (tmps : Array Value) (P : Program) (w : World) :
    (results fn tmps).run P w = ((asAddr (tmps.getD p undef)).run P w).andThen fun a w₁ => ((loadVar ty a).run P w₁).andThen fun v w₂ => .ok (.tuple #[v, tmps.getD q undef]) w₂ := by
  simp only [results, h]
  simp [Sem.run_bind, Result.andThen]
  try rfl
theorem ret_cell2 {P : Program} {fn : Func} {p q : Tmp} {ty : TypeId} {R : Ending → World → Prop} {a : Act} {w : World} {g : Nat} {c : Array Value} {v : Value} {d : TypeDesc} (h : fn.results = #[.cell p ty, .tmp q]) (hu : P.underlying ty = some d) (hr : d.isRow = true) (hi : (P.info? ty).map (·.size) = some c.size) (hp : a.tmps.getD p undef = .pointer (some ⟨g, 0, none⟩)) (hq : a.tmps.getD q undef = v) (hg : w.heap[g]? = some (.cells c ty (0, 0))) (hd : a.defers = []) (hR : R (.returned (.tuple #[.agg c, v])) w) : bodyPost P fn R .ret a w := by
  refine bodyPost_ret ?_ hd hR
  rw [results_cell2 h, hp, hq]
  simp [asAddr, Result.andThen, load_row hu hr hi hg]
theorem feedLen : ∀ (k : Nat) (h : V8) (a : List Int), (feedL k h a).2.length = a.length - 64 * k
  | 0, h, a => rfl
  | k + 1, h, a => by rw [feedL, feedLen k]; simp; omega
def fdOk (H : V8) (n : Nat) (m : Int) (nd : Nat) : Bool := okS H n m && decide ((nd : Int) ≤ 20000 - m)
def fdV (H : V8) (rs : List Int) (m : Int) (ds : List Int) : V8 := if fdOk H rs.length m ds.length = true then (feedL ((rs.length + ds.length) / 64) H (rs ++ ds)).1 else H
def fdL (H : V8) (rs : List Int) (m : Int) (ds : List Int) : List Int := if fdOk H rs.length m ds.length = true then (feedL ((rs.length + ds.length) / 64) H (rs ++ ds)).2 else rs
def fdM (H : V8) (rs : List Int) (m : Int) (ds : List Int) : Int := if fdOk H rs.length m ds.length = true then m + ds.length else m
theorem fdL_length (H : V8) (rs : List Int) (m : Int) (ds : List Int) (h : rs.length ≤ 1048576) : (fdL H rs m ds).length ≤ 1048576 := by
  unfold fdL
  by_cases c : fdOk H rs.length m ds.length = true
  · rw [if_pos c, show (feedL ((rs.length + ds.length) / 64) H (rs ++ ds)).2.length = (rs ++ ds).length - 64 * ((rs.length + ds.length) / 64) from feedLen _ _ _, List.length_append]
    omega
  · rw [if_neg c]
    exact h
set_option maxHeartbeats 8000000 in
set_option maxRecDepth 100000 in
theorem fd_calls (H : V8) (A : Option Addr) (n c : Nat) (rs : List Int) (m : Int) (Ad : Option Addr) (nd cd : Nat) (ds : List Int) (w : World) (hC : KB.C w A n rs) (en : rs.length = n) (hc : n ≤ c) (hd : KB.C w Ad nd ds) (ed : ds.length = nd) (hm : -9223372036854775808 ≤ m ∧ m < 9223372036854775808) (hn : n ≤ 1048576) (hnd : nd ≤ 1048576) :
    Calls Try.prog 17 #[.agg (stC H.l (.slice A n c) m), .slice Ad nd cd] w fun e w' => ∃ (A' : Option Addr) (c' : Nat), e = .returned (.tuple #[.agg (stC (fdV H rs m ds).l (.slice A' (fdL H rs m ds).length c') (fdM H rs m ds)), .bool (fdOk H n m nd)]) ∧ KB.R 5 w' w.heap.size (fun _ => True) (.slice A' (fdL H rs m ds).length c') (fdL H rs m ds) ∧ Below w.heap.size w w' := by
  have HC := Aside0.mk hC
  have EN := Aside0.mk en
  have HDD := Aside0.mk hd
  have ED := Aside0.mk ed
  have hnm : n ≤ maxLen := by unfold maxLen; omega
  obtain ⟨wB, hwB⟩ : ∃ x, (w.alloc (.cells #[.int .i64 H.a, .int .i64 H.b, .int .i64 H.c, .int .i64 H.d, .int .i64 H.e, .int .i64 H.f, .int .i64 H.g, .int .i64 H.h, .slice A n c, .int .i64 m] 32)).alloc (.cells #[.int .i64 0, .int .i64 0, .int .i64 0, .int .i64 0, .int .i64 0, .int .i64 0, .int .i64 0, .int .i64 0, .slice none 0 0, .int .i64 0] 32) = x := ⟨_, rfl⟩
  have HB0 : Aside0 (Below w.heap.size w wB) := ⟨by rw [← hwB]; exact below_alloc (below_alloc (Below.refl _ _) _) _⟩
  have HBX : Aside0 (wB.heap[w.heap.size]? = some (.cells (stC H.l (.slice A n c) m) 32 (0, 0))) := ⟨by rw [← hwB]; exact blk_alloc (heap_alloc_last _ _) _⟩
  have HZX : Aside0 (wB.heap[w.heap.size + 1]? = some (.cells (stC (List.replicate 8 0) (.slice none 0 0) 0) 32 (0, 0))) := ⟨by rw [← hwB]; exact alloc_at (size_alloc _ _) _⟩
  have HWB := Aside0.mk hwB
  obtain ⟨b, hb⟩ : ∃ b, okS H n m = b := ⟨_, rfl⟩
  have HOK : Aside0 (∀ w : World, Calls Try.prog 39 #[.agg (stC H.l (.slice A n c) m)] w fun e w' => e = .returned (.bool b) ∧ Below w.heap.size w w') := ⟨fun w => by rw [← hb]; exact ok_calls H A n c m w hm hnm⟩
  by_cases hf : fdOk H n m nd = true
  · have hb2 : b = true := by
      rw [fdOk, Bool.and_eq_true] at hf
      rw [← hb, hf.1]
    subst hb2
    obtain ⟨hw, mn, rfl, hm1, hm2⟩ := okS_wrap hb
    have hnd2 : (nd : Int) ≤ 20000 - (mn : Int) := by
      rw [fdOk, Bool.and_eq_true, decide_eq_true_eq] at hf
      exact hf.2
    have HE : Aside0 (fdV H rs (mn : Int) ds = (feedL ((n + nd) / 64) H (rs ++ ds)).1 ∧ fdL H rs (mn : Int) ds = (feedL ((n + nd) / 64) H (rs ++ ds)).2 ∧ fdM H rs (mn : Int) ds = ((mn + nd : Nat) : Int) ∧ fdOk H n (mn : Int) nd = true) := ⟨by
      rw [fdV, fdL, fdM, en, ed, hf]
      exact ⟨rfl, rfl, by rw [if_pos rfl]; omega, rfl⟩⟩
    have HW := Aside0.mk hw
    have HM := Aside0.mk hm2
    have hgt : decide (20000 - (mn : Int) < (nd : Int)) = false := decide_eq_false (by omega)
    clear hC hd en ed hb hw hm2 hwB hf
    show Calls Try.prog 17 #[.agg #[.int .i64 H.a, .int .i64 H.b, .int .i64 H.c, .int .i64 H.d, .int .i64 H.e, .int .i64 H.f, .int .i64 H.g, .int .i64 H.h, .slice A n c, .int .i64 (mn : Int)], .slice Ad nd cd] w _
    go_enter Try.func17, Try.ntmps17
    go_upto_region 1 with (fail)
    rw [HWB.out]
    go_wp2_with ((with_reducible refine gate_dst (N := 6) rfl ?_); refine load_ev (t := 32) (x := .tmp 2) (g := w.heap.size) rfl rfl rfl Try.underlying32 rfl HBX.out (by rw [stC_size]; kernel_rfl) ?_)
    refine (HOK.out _).mono ?_
    rintro e w1 ⟨rfl, hb1⟩
    have HB1 := Aside0.mk (below_step HB0.out hb1)
    have HBX1 := Aside0.mk (blk_below HBX.out hb1)
    have HZX1 := Aside0.mk (blk_below HZX.out hb1)
    have q9 : w1.cell? ⟨w.heap.size, 9, none⟩ = some (.int .i64 (mn : Int)) := cell_at HBX1.out 9
    clear hb1 HBX HZX HWB HOK
    go_wp2_with ((with_reducible refine gate_dst (N := 22) rfl ?_); refine load_ev (t := 32) (x := .tmp 2) (g := w.heap.size) rfl rfl rfl Try.underlying32 rfl HBX1.out (by rw [stC_size]; kernel_rfl) ?_)
    refine (fedM_calls H A n c rs mn Ad nd cd ds _ HW.out (Kd.C_below HC.out HB1.out) EN.out (Kd.C_below HDD.out HB1.out) ED.out (by have := HM.out; omega) (by omega) (by omega)).mono ?_
    rintro e w2 ⟨A2, c2, rfl,  hraw, hb2⟩
    have HB2 := Aside0.mk (below_step HB1.out hb2)
    have HZX2 := Aside0.mk (blk_below HZX1.out hb2)
    have HS2 : Aside0 (w.heap.size + 1 < w1.heap.size) := ⟨blk_lt HZX1.out⟩
    obtain ⟨F, hF⟩ : ∃ F, feedL ((n + nd) / 64) H (rs ++ ds) = F := ⟨_, rfl⟩
    rw [hF] at hraw HE ⊢
    have HRAW := Aside0.mk hraw
    clear hb2 hF hraw q9 HBX1 HZX1
    go_wp2_with ((with_reducible refine gate_store (t := 32) (p := 4) (v := .tmp 24) rfl ?_); refine store_row (t := 32) (p := 4) (y := .tmp 24) (g := w.heap.size + 1) (c' := stC F.1.l (.slice A2 F.2.length c2) ((mn + nd : Nat) : Int)) rfl rfl rfl rfl rfl HZX2.out (by rw [stC_size]; kernel_rfl) (by rw [stC_size, stC_size]; rfl) (stC_one _ _ _ _ _) ?_; intro w6 hw6 ho6 hB6)
    refine ret_cell2 rfl Try.underlying32 rfl (by rw [stC_size]; kernel_rfl) rfl rfl hw6 rfl ?_
    obtain ⟨e1, e2, e3, e4⟩ := HE.out
    refine ⟨A2, c2, by rw [e1, e2, e3, e4]; rfl, ?_, HB2.out.trans (hB6 _ (by omega))⟩
    rw [e2]
    have hr := (HRAW.out.move (w' := w6) (fun g cs hg => ?_)).2
    · exact Kd.R_mono (Kd.R_lower hr (by have := HS2.out; omega)) (fun _ _ => trivial)
    · rw [ho6 g (fun e => ?_)]
      · exact hg
      · subst e
        rw [HZX2.out] at hg
        injection hg with hg
        injection hg with h1 h2
        exact absurd h2 (by decide)
  · have HE : Aside0 (fdV H rs m ds = H ∧ fdL H rs m ds = rs ∧ fdM H rs m ds = m ∧ fdOk H n m nd = false) := ⟨by
      have hf' : fdOk H n m nd = false := by simpa using hf
      rw [fdV, fdL, fdM, en, ed, hf']
      exact ⟨rfl, rfl, rfl, rfl⟩⟩
    have hgt : b = true → decide (20000 - m < (nd : Int)) = true := fun h => by
      rw [fdOk, hb, h] at hf
      simp at hf
      exact decide_eq_true (by omega)
    have hmr : b = true → 0 ≤ m ∧ m ≤ 20000 := fun h => by
      obtain ⟨_, mn, h1, h2, _⟩ := okS_wrap (hb.trans h)
      omega
    have HCL : Aside0 (∀ W : World, KB.C W A n rs → Calls Try.prog 31 #[.slice A n c] W fun e w' => ∃ (A' : Option Addr) (c' : Nat), e = .returned (.slice A' n c') ∧ KB.R 5 w' W.heap.size (fun _ => True) (.slice A' n c') rs ∧ Below W.heap.size W w') := ⟨fun W h => by
      exact clone_calls A n c rs W h EN.out hn⟩
    clear hC hd en ed hb hwB hf
    show Calls Try.prog 17 #[.agg #[.int .i64 H.a, .int .i64 H.b, .int .i64 H.c, .int .i64 H.d, .int .i64 H.e, .int .i64 H.f, .int .i64 H.g, .int .i64 H.h, .slice A n c, .int .i64 m], .slice Ad nd cd] w _
    go_enter Try.func17, Try.ntmps17
    go_upto_region 1 with (fail)
    rw [HWB.out]
    go_cut [16] (fun v16 wc => v16 = .bool true ∧ Aside0 (Below w.heap.size w wc) ∧ Aside0 (wc.heap[w.heap.size]? = some (.cells (stC H.l (.slice A n c) m) 32 (0, 0))) ∧ Aside0 (wc.heap[w.heap.size + 1]? = some (.cells (stC (List.replicate 8 0) (.slice none 0 0) 0) 32 (0, 0))))
    case first =>
      go_wp2_with ((with_reducible refine gate_dst (N := 6) rfl ?_); refine load_ev (t := 32) (x := .tmp 2) (g := w.heap.size) rfl rfl rfl Try.underlying32 rfl HBX.out (by rw [stC_size]; kernel_rfl) ?_)
      refine (HOK.out _).mono ?_
      rintro e w1 ⟨rfl, hb1⟩
      have HB1 := Aside0.mk (below_step HB0.out hb1)
      have HBX1 := Aside0.mk (blk_below HBX.out hb1)
      have HZX1 := Aside0.mk (blk_below HZX.out hb1)
      have q9 : w1.cell? ⟨w.heap.size, 9, none⟩ = some (.int .i64 m) := cell_at HBX1.out 9
      clear hb1
      cases b with
      | false =>
        go_wp2
        go_meet
        case rel => exact ⟨rfl, HB1, HBX1, HZX1⟩
      | true =>
        have hg2 := hgt rfl
        have hm2 := hmr rfl
        have hs : IntKind.i64.wrap (20000 - m) = 20000 - m := (i64_w _).trans (by rw [Base.w64] <;> omega)
        go_wp2
        go_meet
        case rel => exact ⟨by first | rfl | (congr 1), HB1, HBX1, HZX1⟩
    case rest =>
      obtain ⟨rfl, HB1, HBX1, HZX1⟩ := hcut
      have q8 : wc.cell? ⟨w.heap.size, 8, none⟩ = some (.slice A n c) := cell_at HBX1.out 8
      clear HBX HZX HWB HOK hgt hmr
      go_wp2_with fail
      refine (HCL.out _ (Kd.C_below HC.out HB1.out)).mono ?_
      rintro e w2 ⟨A2, c2, rfl, hr2, hb2⟩
      have HRR := Aside0.mk (R_own hr2)
      have HB2 := Aside0.mk (below_step HB1.out hb2)
      have HBX2 := Aside0.mk (blk_below HBX1.out hb2)
      have HZX2 := Aside0.mk (blk_below HZX1.out hb2)
      have HS2 : Aside0 (w.heap.size + 1 < wc.heap.size) := ⟨blk_lt HZX1.out⟩
      have p8 : w2.cell? ⟨w.heap.size, 8, none⟩ = some (.slice A n c) := cell_at HBX2.out 8
      have f8 := free_at HBX2.out 8
      clear hr2 hb2 HBX1 HZX1 q8
      go_wp2_with (first | ((with_reducible refine gate_dst (N := 21) rfl ?_); refine load_ev (t := 32) (x := .tmp 2) (g := w.heap.size) rfl rfl rfl Try.underlying32 rfl (heap_set HBX2.out 8 _) (by rw [stC_set8 _ _ _ _ (V8.l_length _), stC_size]; kernel_rfl) ?_) | ((with_reducible refine gate_store (t := 32) (p := 4) (v := .tmp 21) rfl ?_); refine halt_ ?_))
      unfold Halt_
      rw [stC_set8 _ _ _ _ (V8.l_length _)]
      refine store_row (t := 32) (p := 4) (y := .tmp 21) (g := w.heap.size + 1) rfl rfl rfl rfl rfl ((heap_other _ _ _ _ _ (by omega)).trans HZX2.out) (by rw [stC_size]; kernel_rfl) (by rw [stC_size, stC_size]; rfl) (stC_one _ _ _ _ _) ?_
      intro w6 hw6 ho6 hB6
      go_wp2
      refine ret_cell2 rfl Try.underlying32 rfl (by rw [stC_size]; kernel_rfl) rfl rfl hw6 rfl ?_
      obtain ⟨e1, e2, e3, e4⟩ := HE.out
      have hlen := EN.out
      refine ⟨A2, c2, by rw [e1, e2, e3, e4, hlen]; rfl, ?_, (below_set HB2.out (Nat.le_refl _)).trans (hB6 _ (by omega))⟩
      rw [e2, hlen]
      have hs2 := HS2.out
      exact Kd.R_mono (Kd.R_lower (Kd.R_step HRR.out (fun k hk hlt => by rw [ho6 k (by omega), heap_other _ _ _ _ _ (by omega)])) (by omega)) (fun _ _ => trivial)
set_option maxHeartbeats 8000000 in
set_option maxRecDepth 100000 in
theorem sfd_calls (H : V8) (A : Option Addr) (n c : Nat) (rs : List Int) (m : Int) (Ad : Option Addr) (nd cd : Nat) (ds : List Int) (w : World) (hC : KB.C w A n rs) (en : rs.length = n) (hc : n ≤ c) (hd : KB.C w Ad nd ds) (ed : ds.length = nd) (hm : -9223372036854775808 ≤ m ∧ m < 9223372036854775808) (hn : n ≤ 1048576) (hnd : nd ≤ 1048576) :
    Calls Try.prog 15 #[.agg (stC H.l (.slice A n c) m), .slice Ad nd cd] w fun e w' => ∃ (A' : Option Addr) (c' : Nat), e = .returned (.tuple #[.agg (stC (fdV H rs m ds).l (.slice A' (fdL H rs m ds).length c') (fdM H rs m ds)), .bool (fdOk H n m nd)]) ∧ KB.R 5 w' w.heap.size (fun _ => True) (.slice A' (fdL H rs m ds).length c') (fdL H rs m ds) ∧ Below w.heap.size w w' := by
  have HC := Aside0.mk hC
  have EN := Aside0.mk en
  have HDD := Aside0.mk hd
  have ED := Aside0.mk ed
  have hnm : n ≤ maxLen := by unfold maxLen; omega
  obtain ⟨wB, hwB⟩ : ∃ x, (w.alloc (.cells #[.int .i64 H.a, .int .i64 H.b, .int .i64 H.c, .int .i64 H.d, .int .i64 H.e, .int .i64 H.f, .int .i64 H.g, .int .i64 H.h, .slice A n c, .int .i64 m] 32)).alloc (.cells #[.int .i64 0, .int .i64 0, .int .i64 0, .int .i64 0, .int .i64 0, .int .i64 0, .int .i64 0, .int .i64 0, .slice none 0 0, .int .i64 0] 32) = x := ⟨_, rfl⟩
  have HB0 : Aside0 (Below w.heap.size w wB) := ⟨by rw [← hwB]; exact below_alloc (below_alloc (Below.refl _ _) _) _⟩
  have HBX : Aside0 (wB.heap[w.heap.size]? = some (.cells (stC H.l (.slice A n c) m) 32 (0, 0))) := ⟨by rw [← hwB]; exact blk_alloc (heap_alloc_last _ _) _⟩
  have HZX : Aside0 (wB.heap[w.heap.size + 1]? = some (.cells (stC (List.replicate 8 0) (.slice none 0 0) 0) 32 (0, 0))) := ⟨by rw [← hwB]; exact alloc_at (size_alloc _ _) _⟩
  have HWB := Aside0.mk hwB
  obtain ⟨b, hb⟩ : ∃ b, okS H n m = b := ⟨_, rfl⟩
  have HOK : Aside0 (∀ w : World, Calls Try.prog 35 #[.agg (stC H.l (.slice A n c) m)] w fun e w' => e = .returned (.bool b) ∧ Below w.heap.size w w') := ⟨fun w => by rw [← hb]; exact sok_calls H A n c m w hm hnm⟩
  by_cases hf : fdOk H n m nd = true
  · have hb2 : b = true := by
      rw [fdOk, Bool.and_eq_true] at hf
      rw [← hb, hf.1]
    subst hb2
    obtain ⟨hw, mn, rfl, hm1, hm2⟩ := okS_wrap hb
    have hnd2 : (nd : Int) ≤ 20000 - (mn : Int) := by
      rw [fdOk, Bool.and_eq_true, decide_eq_true_eq] at hf
      exact hf.2
    have HE : Aside0 (fdV H rs (mn : Int) ds = (feedL ((n + nd) / 64) H (rs ++ ds)).1 ∧ fdL H rs (mn : Int) ds = (feedL ((n + nd) / 64) H (rs ++ ds)).2 ∧ fdM H rs (mn : Int) ds = ((mn + nd : Nat) : Int) ∧ fdOk H n (mn : Int) nd = true) := ⟨by
      rw [fdV, fdL, fdM, en, ed, hf]
      exact ⟨rfl, rfl, by rw [if_pos rfl]; omega, rfl⟩⟩
    have HW := Aside0.mk hw
    have HM := Aside0.mk hm2
    have hgt : decide (20000 - (mn : Int) < (nd : Int)) = false := decide_eq_false (by omega)
    clear hC hd en ed hb hw hm2 hwB hf
    show Calls Try.prog 15 #[.agg #[.int .i64 H.a, .int .i64 H.b, .int .i64 H.c, .int .i64 H.d, .int .i64 H.e, .int .i64 H.f, .int .i64 H.g, .int .i64 H.h, .slice A n c, .int .i64 (mn : Int)], .slice Ad nd cd] w _
    go_enter Try.func15, Try.ntmps15
    go_upto_region 1 with (fail)
    rw [HWB.out]
    go_wp2_with ((with_reducible refine gate_dst (N := 6) rfl ?_); refine load_ev (t := 32) (x := .tmp 2) (g := w.heap.size) rfl rfl rfl Try.underlying32 rfl HBX.out (by rw [stC_size]; kernel_rfl) ?_)
    refine (HOK.out _).mono ?_
    rintro e w1 ⟨rfl, hb1⟩
    have HB1 := Aside0.mk (below_step HB0.out hb1)
    have HBX1 := Aside0.mk (blk_below HBX.out hb1)
    have HZX1 := Aside0.mk (blk_below HZX.out hb1)
    have q9 : w1.cell? ⟨w.heap.size, 9, none⟩ = some (.int .i64 (mn : Int)) := cell_at HBX1.out 9
    clear hb1 HBX HZX HWB HOK
    go_wp2_with ((with_reducible refine gate_dst (N := 22) rfl ?_); refine load_ev (t := 32) (x := .tmp 2) (g := w.heap.size) rfl rfl rfl Try.underlying32 rfl HBX1.out (by rw [stC_size]; kernel_rfl) ?_)
    refine (sfeedM_calls H A n c rs mn Ad nd cd ds _ HW.out (Kd.C_below HC.out HB1.out) EN.out hc (Kd.C_below HDD.out HB1.out) ED.out (by have := HM.out; omega) (by omega) (by omega)).mono ?_
    rintro e w2 ⟨A2, c2, rfl, _, hraw, hb2⟩
    have HB2 := Aside0.mk (below_step HB1.out hb2)
    have HZX2 := Aside0.mk (blk_below HZX1.out hb2)
    have HS2 : Aside0 (w.heap.size + 1 < w1.heap.size) := ⟨blk_lt HZX1.out⟩
    obtain ⟨F, hF⟩ : ∃ F, feedL ((n + nd) / 64) H (rs ++ ds) = F := ⟨_, rfl⟩
    rw [hF] at hraw HE ⊢
    have HRAW := Aside0.mk hraw
    clear hb2 hF hraw q9 HBX1 HZX1
    go_wp2_with ((with_reducible refine gate_store (t := 32) (p := 4) (v := .tmp 24) rfl ?_); refine store_row (t := 32) (p := 4) (y := .tmp 24) (g := w.heap.size + 1) (c' := stC F.1.l (.slice A2 F.2.length c2) ((mn + nd : Nat) : Int)) rfl rfl rfl rfl rfl HZX2.out (by rw [stC_size]; kernel_rfl) (by rw [stC_size, stC_size]; rfl) (stC_one _ _ _ _ _) ?_; intro w6 hw6 ho6 hB6)
    refine ret_cell2 rfl Try.underlying32 rfl (by rw [stC_size]; kernel_rfl) rfl rfl hw6 rfl ?_
    obtain ⟨e1, e2, e3, e4⟩ := HE.out
    refine ⟨A2, c2, by rw [e1, e2, e3, e4]; rfl, ?_, HB2.out.trans (hB6 _ (by omega))⟩
    rw [e2]
    have hr := (HRAW.out.move (w' := w6) (fun g cs hg => ?_)).2
    · exact Kd.R_mono (Kd.R_lower hr (by have := HS2.out; omega)) (fun _ _ => trivial)
    · rw [ho6 g (fun e => ?_)]
      · exact hg
      · subst e
        rw [HZX2.out] at hg
        injection hg with hg
        injection hg with h1 h2
        exact absurd h2 (by decide)
  · have HE : Aside0 (fdV H rs m ds = H ∧ fdL H rs m ds = rs ∧ fdM H rs m ds = m ∧ fdOk H n m nd = false) := ⟨by
      have hf' : fdOk H n m nd = false := by simpa using hf
      rw [fdV, fdL, fdM, en, ed, hf']
      exact ⟨rfl, rfl, rfl, rfl⟩⟩
    have hgt : b = true → decide (20000 - m < (nd : Int)) = true := fun h => by
      rw [fdOk, hb, h] at hf
      simp at hf
      exact decide_eq_true (by omega)
    have hmr : b = true → 0 ≤ m ∧ m ≤ 20000 := fun h => by
      obtain ⟨_, mn, h1, h2, _⟩ := okS_wrap (hb.trans h)
      omega
    have HCL : Aside0 (∀ W : World, KB.C W A n rs → Calls Try.prog 36 #[.slice A n c] W fun e w' => ∃ (A' : Option Addr) (c' : Nat), e = .returned (.slice A' n c') ∧ KB.R 5 w' W.heap.size (fun _ => True) (.slice A' n c') rs ∧ Below W.heap.size W w') := ⟨fun W h => by
      have h1 := spec_l1Bytes.calls A c rs rs W (by rw [EN.out]; exact h) (by rw [EN.out]; exact hc) (by unfold spec_l1Bytes.f; simp; rw [EN.out]; omega)
      rw [EN.out] at h1
      refine h1.mono ?_
      rintro e w' ⟨v, rfl, hr, hb⟩
      obtain ⟨A', c', e1⟩ := Kd.R_slice hr
      rw [EN.out] at e1
      subst e1
      exact ⟨A', c', rfl, hr, hb⟩⟩
    clear hC hd en ed hb hwB hf
    show Calls Try.prog 15 #[.agg #[.int .i64 H.a, .int .i64 H.b, .int .i64 H.c, .int .i64 H.d, .int .i64 H.e, .int .i64 H.f, .int .i64 H.g, .int .i64 H.h, .slice A n c, .int .i64 m], .slice Ad nd cd] w _
    go_enter Try.func15, Try.ntmps15
    go_upto_region 1 with (fail)
    rw [HWB.out]
    go_cut [16] (fun v16 wc => v16 = .bool true ∧ Aside0 (Below w.heap.size w wc) ∧ Aside0 (wc.heap[w.heap.size]? = some (.cells (stC H.l (.slice A n c) m) 32 (0, 0))) ∧ Aside0 (wc.heap[w.heap.size + 1]? = some (.cells (stC (List.replicate 8 0) (.slice none 0 0) 0) 32 (0, 0))))
    case first =>
      go_wp2_with ((with_reducible refine gate_dst (N := 6) rfl ?_); refine load_ev (t := 32) (x := .tmp 2) (g := w.heap.size) rfl rfl rfl Try.underlying32 rfl HBX.out (by rw [stC_size]; kernel_rfl) ?_)
      refine (HOK.out _).mono ?_
      rintro e w1 ⟨rfl, hb1⟩
      have HB1 := Aside0.mk (below_step HB0.out hb1)
      have HBX1 := Aside0.mk (blk_below HBX.out hb1)
      have HZX1 := Aside0.mk (blk_below HZX.out hb1)
      have q9 : w1.cell? ⟨w.heap.size, 9, none⟩ = some (.int .i64 m) := cell_at HBX1.out 9
      clear hb1
      cases b with
      | false =>
        go_wp2
        go_meet
        case rel => exact ⟨rfl, HB1, HBX1, HZX1⟩
      | true =>
        have hg2 := hgt rfl
        have hm2 := hmr rfl
        have hs : IntKind.i64.wrap (20000 - m) = 20000 - m := (i64_w _).trans (by rw [Base.w64] <;> omega)
        go_wp2
        go_meet
        case rel => exact ⟨by first | rfl | (congr 1), HB1, HBX1, HZX1⟩
    case rest =>
      obtain ⟨rfl, HB1, HBX1, HZX1⟩ := hcut
      have q8 : wc.cell? ⟨w.heap.size, 8, none⟩ = some (.slice A n c) := cell_at HBX1.out 8
      clear HBX HZX HWB HOK hgt hmr
      go_wp2_with fail
      refine (HCL.out _ (Kd.C_below HC.out HB1.out)).mono ?_
      rintro e w2 ⟨A2, c2, rfl, hr2, hb2⟩
      have HRR := Aside0.mk (R_own hr2)
      have HB2 := Aside0.mk (below_step HB1.out hb2)
      have HBX2 := Aside0.mk (blk_below HBX1.out hb2)
      have HZX2 := Aside0.mk (blk_below HZX1.out hb2)
      have HS2 : Aside0 (w.heap.size + 1 < wc.heap.size) := ⟨blk_lt HZX1.out⟩
      have p8 : w2.cell? ⟨w.heap.size, 8, none⟩ = some (.slice A n c) := cell_at HBX2.out 8
      have f8 := free_at HBX2.out 8
      clear hr2 hb2 HBX1 HZX1 q8
      go_wp2_with (first | ((with_reducible refine gate_dst (N := 21) rfl ?_); refine load_ev (t := 32) (x := .tmp 2) (g := w.heap.size) rfl rfl rfl Try.underlying32 rfl (heap_set HBX2.out 8 _) (by rw [stC_set8 _ _ _ _ (V8.l_length _), stC_size]; kernel_rfl) ?_) | ((with_reducible refine gate_store (t := 32) (p := 4) (v := .tmp 21) rfl ?_); refine halt_ ?_))
      unfold Halt_
      rw [stC_set8 _ _ _ _ (V8.l_length _)]
      refine store_row (t := 32) (p := 4) (y := .tmp 21) (g := w.heap.size + 1) rfl rfl rfl rfl rfl ((heap_other _ _ _ _ _ (by omega)).trans HZX2.out) (by rw [stC_size]; kernel_rfl) (by rw [stC_size, stC_size]; rfl) (stC_one _ _ _ _ _) ?_
      intro w6 hw6 ho6 hB6
      go_wp2
      refine ret_cell2 rfl Try.underlying32 rfl (by rw [stC_size]; kernel_rfl) rfl rfl hw6 rfl ?_
      obtain ⟨e1, e2, e3, e4⟩ := HE.out
      have hlen := EN.out
      refine ⟨A2, c2, by rw [e1, e2, e3, e4, hlen]; rfl, ?_, (below_set HB2.out (Nat.le_refl _)).trans (hB6 _ (by omega))⟩
      rw [e2, hlen]
      have hs2 := HS2.out
      exact Kd.R_mono (Kd.R_lower (Kd.R_step HRR.out (fun k hk hlt => by rw [ho6 k (by omega), heap_other _ _ _ _ _ (by omega)])) (by omega)) (fun _ _ => trivial)
end Go.Proofs.Ytgfhbkhbnmgogaa.GFnExactFeed.Hand
