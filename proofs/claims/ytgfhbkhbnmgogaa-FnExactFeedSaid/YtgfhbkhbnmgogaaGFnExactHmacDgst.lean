import Derived.Test.YtgfhbkhbnmgogaaGFnExactHmacFed
namespace Go.Proofs.Ytgfhbkhbnmgogaa.GFnExactHmac.Hand
open Go.RowKit Go.Proofs.YtgfhbkhbnmgogaaW.PrintWords Go.Proofs.YtgfhbkhbnmgogaaW.PrintLast Go.Proofs.YtgfhbkhbnmgogaaW.PrintMore
set_option linter.unusedVariables false
set_option linter.unusedSimpArgs false
def sizeB (m : Nat) (t : Nat) : Int := (8 * (m : Int)) / (2 : Int) ^ (56 - 8 * t) % 256
def tailB (m : Nat) : Nat → List Int
  | 0 => [128] ++ List.replicate ((119 - m % 64) % 64) 0
  | t + 1 => tailB m t ++ [sizeB m t]
theorem tailB_length (m : Nat) : ∀ t, (tailB m t).length = 1 + (119 - m % 64) % 64 + t
  | 0 => by simp [tailB]; omega
  | t + 1 => by rw [tailB, List.length_append, tailB_length m t]; simp; omega
def word4 (x : Int) : List Int := [x / 16777216 % 256, x / 65536 % 256, x / 256 % 256, x % 256]
def outL (h : List Int) : Nat → List Int
  | 0 => []
  | t + 1 => outL h t ++ word4 (h.getD t 0)
theorem outL_length (h : List Int) : ∀ t, (outL h t).length = 4 * t
  | 0 => rfl
  | t + 1 => by rw [outL, List.length_append, outL_length h t]; simp [word4]; omega
def digL (H : V8) (rs : List Int) (m : Nat) : List Int :=
  outL (feedL ((rs.length + (tailB m 8).length) / 64) H (rs ++ tailB m 8)).1.l 8
theorem lit_reads (w : World) (xs : List Int) (hl : xs.length ≤ 100) : (Kd.int .u8).C (w.alloc (.cells (xs.map (Value.int .u8)).toArray 5)) (some ⟨w.heap.size, 0, none⟩) xs.length xs := by
  refine ⟨rfl, by omega, fun _ => ⟨_, rfl, fun j p hp => ⟨[.int .u8 p], rfl, rfl, fun i u hu => ?_⟩⟩⟩
  cases i with
  | succ i => simp at hu
  | zero =>
    obtain rfl : (.int .u8 p : Value) = u := by simpa using hu
    have a : (Addr.add ⟨w.heap.size, 0, none⟩ (j * (Kd.int .u8).sz + 0) : Addr) = ⟨w.heap.size, j, none⟩ := by
      show (Addr.add ⟨w.heap.size, 0, none⟩ (j * 1 + 0) : Addr) = _
      simp [Addr.add]
      omega
    rw [a, cell_at (heap_alloc_last _ _) j]
    simp [hp]
theorem u8lit (w : World) {base : Nat} (xs : List Int) (hl : xs.length ≤ 100) (hb : base ≤ w.heap.size) : (Kd.int .u8).R 5 (w.alloc (.cells (xs.map (Value.int .u8)).toArray 5)) base (fun _ => True) (.slice (some ⟨w.heap.size, 0, none⟩) xs.length xs.length) xs := by
  refine Kd.R_of_own (enc := Value.int .u8) (h1 := fun _ => rfl) ?_ (fun k hk => trivial)
  have h2 := World.ownsRow_lit (base := base) (e := 5) (size := 1) w (xs.map (Value.int .u8)).toArray xs.length hb (by unfold maxLen; omega) (by simp)
  simp only [List.toList_toArray] at h2
  exact h2
theorem field32 (l : V8) (r : Value) (m : Int) (W : World) : (Instr.field 32 (.agg (stC l.l r m)) 0).run Try.prog W = .ok (.agg (is l.l)) W := by
  unfold Instr.field
  simp only [Sem.run_bind, run_underlying Try.underlying32, Result.andThen_ok]
  simp [part, Try.isAgg28, Try.sizeOf28, Sem.run_bind, Result.andThen]
  try rfl
theorem ev_field32 {ops : Array Oper} {rest : List Oper} {o : Oper} {a : Act} {Q : Exit → Act → World → Prop} {w : World} {x : Operand} (l : V8) (r : Value) (m : Int) (hgd : o.guard = none) (ho : o.op = .field 32 x 0) (hx : a.eval x = .agg (stC l.l r m)) (h : wpList Try.prog ops Q rest (a.put o.dst (.agg (is l.l))) w) : wpList Try.prog ops Q (o :: rest) a w := by
  refine Kd.event_run hgd ?_ h
  unfold execOp
  simp only [ho, hx, Sem.run_bind, field32, Result.andThen_ok]
  rfl
def Halt_ (p : Prop) : Prop := p
theorem halt_ {p : Prop} (h : Halt_ p) : p := h
set_option maxHeartbeats 8000000 in
set_option maxRecDepth 100000 in
theorem digest_calls (H : V8) (Ar : Option Addr) (nr cr : Nat) (rs : List Int) (m : Nat) (w : World) (hH : wrapV H = H) (hr : (Kd.int .u8).C w Ar nr rs) (er : rs.length = nr) (lr : nr ≤ 100) (lm : m ≤ 20000) :
    Calls Try.prog 43 #[.agg (stC H.l (.slice Ar nr cr) (m : Int))] w fun e w' => ∃ v, e = .returned v ∧ (Kd.int .u8).R 5 w' w.heap.size (fun _ => True) v (digL H rs m) ∧ Below w.heap.size w w' := by
  have HH := Aside0.mk hH
  have HRS := Aside0.mk hr
  have ER := Aside0.mk er
  clear hH hr er
  obtain ⟨z, hz⟩ : ∃ z : Nat, (119 - m % 64) % 64 = z := ⟨_, rfl⟩
  have hzl : z < 64 := by omega
  have e1 : Int.tmod (m : Int) 64 = ((m % 64 : Nat) : Int) := by rw [Int.tmod_eq_emod_of_nonneg (by omega)]; simp
  have HTZ : Aside0 (tailB m 0 = [128] ++ List.replicate z 0) := ⟨by rw [tailB, hz]⟩
  show Calls Try.prog 43 #[.agg #[.int .i64 H.a, .int .i64 H.b, .int .i64 H.c, .int .i64 H.d, .int .i64 H.e, .int .i64 H.f, .int .i64 H.g, .int .i64 H.h, .slice Ar nr cr, .int .i64 (m : Int)]] w _
  have HZ := Aside0.mk hz
  clear hz e1
  go_enter Try.func43, Try.ntmps43
  have hzz : ((119 - (m : Int) % 64) % 64).toNat = z := by have := HZ.out; omega
  go_upto_region 1 with (fail)
  obtain ⟨wB, hwB⟩ : ∃ x, w.alloc (.cells #[.int .i64 H.a, .int .i64 H.b, .int .i64 H.c, .int .i64 H.d, .int .i64 H.e, .int .i64 H.f, .int .i64 H.g, .int .i64 H.h, .slice Ar nr cr, .int .i64 (m : Int)] 32) = x := ⟨_, rfl⟩
  rw [hwB]
  have HB0 : Aside0 (Below w.heap.size w wB) := ⟨by rw [← hwB]; exact below_alloc (Below.refl _ _) _⟩
  have HSB : Aside0 (wB.heap.size = w.heap.size + 1) := ⟨by rw [← hwB]; exact size_alloc _ _⟩
  have HBX : Aside0 (wB.heap[w.heap.size]? = some (.cells (stC H.l (.slice Ar nr cr) (m : Int)) 32 (0, 0))) := ⟨by rw [← hwB]; exact heap_alloc_last _ _⟩
  clear hwB
  have hm9 : ∀ o, (wB.alloc o).cell? ⟨w.heap.size, 9, none⟩ = some (.int .i64 (m : Int)) := fun o => cell_at (blk_alloc HBX.out o) 9
  go_wp2_with ((with_reducible refine gate_builtin (b := .append) (xs := #[.tmp 8, .tmp 13]) rfl ?_); refine halt_ ?_)
  unfold Halt_
  at_builtin
  refine Kd.R_append_zeros (Kd.int .u8) (w0 := wB) wB.heap.size rfl (.tmp 8) (.tmp 13) 22 3 5 (.int .u8 0) 1 rfl Try.underlying22 Try.underlying3 info5 rfl (by decide) (by omega) (.slice (some ⟨wB.heap.size, 0, none⟩) 1 1) [128] 0 ((119 - (m : Int) % 64) % 64) (fun _ => True) rfl rfl rfl (fun _ _ => trivial) (u8lit wB [128] (by decide) (Nat.le_refl _)) (by omega) (below_alloc (Below.refl _ _) _) (by rw [size_alloc]; omega) (by simp; omega) ?_
  intro v9 w9 ho hb hg hat
  rw [hzz, ← HTZ.out] at ho
  obtain ⟨A9, c9, e9⟩ := Kd.R_slice ho
  have hl0 : (tailB m 0).length = 1 + z := by rw [tailB_length, HZ.out]; rfl
  rw [hl0] at e9
  subst e9
  have HO := Aside0.mk ho
  have HB := Aside0.mk hb
  clear ho hb hg hat hl0 hm9
  go_wp2
  go_loopg [3, 4] 8 (fun gk v3 v4 wr => ∃ (t : Nat) (A : Option Addr) (c : Nat), t + gk = 8 ∧ v4 = .int .i64 (56 - 8 * (t : Int)) ∧ v3 = .slice A (1 + z + t) c ∧ Aside0 ((Kd.int .u8).R 5 wr wB.heap.size (fun _ => True) (.slice A (1 + z + t) c) (tailB m t)) ∧ Aside0 (Below wB.heap.size wB wr))
  case atStart => exact ⟨0, A9, c9, rfl, rfl, rfl, HO, HB⟩
  case round =>
    clear HO HB
    obtain ⟨t, A, c, ht, rfl, rfl, HO, HB⟩ := hrel
    have HBXr : Aside0 (wr.heap[w.heap.size]? = some (.cells (stC H.l (.slice Ar nr cr) (m : Int)) 32 (0, 0))) := ⟨blk_below HBX.out HB.out⟩
    by_cases hlt : t < 8
    · have hm9 : wr.cell? ⟨w.heap.size, 9, none⟩ = some (.int .i64 (m : Int)) := by rw [cell_at HBXr.out]; rfl
      have hm8 : IntKind.i64.wrap (8 * (m : Int)) = 8 * (m : Int) := (i64_w _).trans (by rw [Base.w64] <;> omega)
      go_wp2_with ((with_reducible refine gate_builtin (b := .append) (xs := #[.tmp 19, .tmp 26]) rfl ?_); refine halt_ ?_)
      unfold Halt_
      at_builtin
      refine Kd.R_append (Kd.int .u8) (w0 := wB) wB.heap.size rfl (.tmp 19) (.tmp 26) 22 5 (.int .u8 0) 1 rfl Try.underlying22 info5 rfl (by decide) (by omega) (.slice A (1 + z + t) c) (tailB m t) (sizeB m t) [.int .u8 (sizeB m t)] (fun _ => True) (fun _ => False) rfl rfl rfl (fun _ hk => hk.elim) (fun _ _ => trivial) HO.out HB.out HB.out.size (by rw [tailB_length, HZ.out]; omega) ?_
      intro v9 w9 ho hb hg hat
      obtain ⟨A9, c9, e9⟩ := Kd.R_slice ho
      have hl0 : (tailB m t ++ [sizeB m t]).length = 1 + z + (t + 1) := by rw [List.length_append, tailB_length, HZ.out]; rfl
      rw [hl0] at e9
      subst e9
      have HO2 := Aside0.mk ho
      have HB2 := Aside0.mk hb
      clear ho hb hg hat hl0
      go_wp2
      go_roundg (8 - (t + 1))
      case measure => omega
      case rel => exact ⟨t + 1, A9, c9, by omega, by go_num, rfl, HO2, HB2⟩
    · obtain rfl : t = 8 := by omega
      clear hlt
      have HBW : Aside0 (Below w.heap.size w wr) := ⟨below_step HB0.out HB.out⟩
      have HLT : Aside0 ((tailB m 8).length = 1 + z + 8) := ⟨by rw [tailB_length, HZ.out]⟩
      go_wp2_with ((with_reducible refine gate_dst (N := 29) rfl ?_); refine load_ev (t := 32) (x := .tmp 1) (g := w.heap.size) rfl rfl rfl Try.underlying32 rfl (blk_alloc HBXr.out _) (by rw [stC_size]; kernel_rfl) ?_)
      refine (fed_calls H Ar nr cr rs m A (1 + z + 8) c (tailB m 8) _ HH.out (Kd.C_below HRS.out (below_alloc HBW.out _)) ER.out (Kd.C_alloc (by have := (Kd.R_reads' HO.out).2.2; rw [HLT.out] at this; exact this) _) HLT.out (by omega) (by omega) (by omega)).mono ?_
      rintro e w2 ⟨A2, c2, rfl, hraw, hb2⟩
      have HB2 := Aside0.mk (below_step (below_alloc HBW.out (.cells #[] 5)) hb2)
      have HOE := Aside0.mk (Kd.R_below (u8lit (base := w.heap.size) wr [] (by decide) HBW.out.size) hb2)
      obtain ⟨F, hF⟩ : ∃ F, feedL ((nr + (1 + z + 8)) / 64) H (rs ++ tailB m 8) = F := ⟨_, rfl⟩
      rw [hF]
      have HD : Aside0 (digL H rs m = outL F.1.l 8) := ⟨by rw [digL, ER.out, HLT.out, hF]⟩
      clear hraw hb2 hF HB HO
      obtain ⟨h, r⟩ := F
      go_wp2_with ((with_reducible refine gate_dst (N := 32) rfl ?_); refine ev_field32 (x := .tmp 31) h (.slice A2 r.length c2) ((m + (1 + z + 8) : Nat) : Int) rfl rfl rfl ?_)
      go_loopg [5, 33] 8 (fun gk v5 v33 wr => ∃ (t : Nat) (A : Option Addr) (c : Nat), t + gk = 8 ∧ v33 = .int .i64 (t : Int) ∧ v5 = .slice A (4 * t) c ∧ Aside0 ((Kd.int .u8).R 5 wr w.heap.size (fun _ => True) (.slice A (4 * t) c) (outL h.l t)) ∧ Aside0 (Below w.heap.size w wr))
      case atStart => exact ⟨0, _, _, rfl, rfl, rfl, HOE, HB2⟩
      case round =>
        clear HOE HB2
        obtain ⟨t, A, c, ht, rfl, rfl, HO, HB⟩ := hrel
        by_cases hlt : (t : Int) < 8
        · have ht2 : t < 8 := by omega
          obtain ⟨x, hx⟩ : ∃ x, h.l.getD t 0 = x := ⟨_, rfl⟩
          have HX := Aside0.mk hx
          have HIX : Aside0 (∀ {ops : Array Oper} {rest : List Oper} {o : Oper} {a : Act} {Q : Exit → Act → World → Prop} {w : World}, o.guard = none → o.op = .index 28 (.tmp 32) (.tmp 33) → a.eval (.tmp 32) = .agg (is h.l) → a.eval (.tmp 33) = .int .i64 (t : Int) → wpList Try.prog ops Q rest (a.put o.dst (.int .i64 x)) w → wpList Try.prog ops Q (o :: rest) a w) := ⟨fun h1 h2 h3 h4 h5 => ev_index28 h.l t h1 h2 h3 h4 ht2 rfl (by rw [hx]; exact h5)⟩
          clear hx
          go_wp2_with (first | ((with_reducible refine gate_dst (N := 35) rfl ?_); refine HIX.out rfl rfl rfl rfl ?_) | ((with_reducible refine gate_builtin (b := .append) (xs := #[.tmp 36, .tmp 48]) rfl ?_); refine halt_ ?_))
          unfold Halt_
          at_builtin
          refine Kd.R_append_rows (Kd.int .u8) (w0 := w) w.heap.size rfl (.tmp 36) (.tmp 48) 22 5 (.int .u8 0) 1 rfl Try.underlying22 info5 rfl (by decide) (by omega) (.slice A (4 * t) c) (outL h.l t) (word4 x) (some ⟨wr.heap.size, 0, none⟩) 4 4 (fun _ => True) (fun _ => False) rfl rfl (Kd.R_below HO.out (below_alloc (Below.refl _ _) _)) (lit_reads wr (word4 x) (by simp [word4])) (fun _ _ h => h) (fun _ h => h.elim) (fun _ _ => trivial) (below_alloc HB.out _) (Nat.le_trans HB.out.size (below_alloc (Below.refl _ _) _).size) (by rw [outL_length]; omega) ?_
          intro v9 w9 ho hb hg hat
          obtain ⟨A9, c9, e9⟩ := Kd.R_slice ho
          have hl0 : (outL h.l t ++ word4 x).length = 4 * (t + 1) := by rw [List.length_append, outL_length]; simp [word4]; omega
          rw [hl0] at e9
          subst e9
          have ho' : (Kd.int .u8).R 5 w9 w.heap.size (fun _ => True) (.slice A9 (4 * (t + 1)) c9) (outL h.l (t + 1)) := by rw [outL, HX.out]; exact ho
          have HO2 := Aside0.mk ho'
          have HB2 := Aside0.mk hb
          clear ho ho' hb hg hat hl0
          go_wp2
          go_roundg (8 - (t + 1))
          case measure => omega
          case rel => exact ⟨t + 1, A9, c9, by omega, by go_num, rfl, HO2, HB2⟩
        · obtain rfl : t = 8 := by omega
          clear hlt
          go_wp2
          go_ret
          exact ⟨_, rfl, by rw [HD.out]; exact HO.out, HB.out⟩
end Go.Proofs.Ytgfhbkhbnmgogaa.GFnExactHmac.Hand
