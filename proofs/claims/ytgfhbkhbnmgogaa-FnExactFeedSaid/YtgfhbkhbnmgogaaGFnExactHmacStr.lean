import Derived.Test.YtgfhbkhbnmgogaaGFnExactHmacCon
import Derived.Test.YtgfhbkhbnmgogaaGFnExactHmacDig
import Derived.Test.YtgfhbkhbnmgogaaGFnExactHmacCat
namespace Go.Proofs.Ytgfhbkhbnmgogaa.GFnExactHmac.Hand
open Go.RowKit Go.Proofs.YtgfhbkhbnmgogaaW.PrintWords Go.Proofs.YtgfhbkhbnmgogaaW.PrintLast Go.Proofs.YtgfhbkhbnmgogaaW.PrintMore
set_option linter.unusedVariables false
set_option linter.unusedSimpArgs false
theorem index28 (f : Operand → Value) (w : World) (o : Oper) (x y : Operand) (l : List Int) (t : Nat) (ho : o.op = .index 28 x y) (hx : f x = .agg (is l)) (hy : f y = .int .i64 (t : Int)) (ht : t < 8) (hl : l.length = 8) : (execOp f o).run Try.prog w = .ok (.value (.int .i64 (l.getD t 0))) w := by
  have hc : (is l)[t]? = some (.int .i64 (l.getD t 0)) := is_at l t (by omega)
  have h2 : (t : Int) < ((8 : Nat) : Int) := by omega
  unfold execOp
  rw [ho]
  simp only [hx, hy, Instr.index, asIntOf, Sem.run_bind, Sem.run_pure, Result.andThen_ok, run_underlying Try.underlying28, Try.sizeOf3]
  rw [if_pos ⟨by omega, h2⟩]
  simp [part, hc, Sem.run_bind, Try.sizeOf3, Try.isAgg3, Result.andThen]
theorem index67 (f : Operand → Value) (w : World) (o : Oper) (x y : Operand) (l : List Int) (t : Nat) (ho : o.op = .index 67 x y) (hx : f x = .agg (us l)) (hy : f y = .int .i64 (t : Int)) (ht : t < 8) (hl : l.length = 8) : (execOp f o).run Try.prog w = .ok (.value (.int .u32 (l.getD t 0))) w := by
  have hc : (us l)[t]? = some (.int .u32 (l.getD t 0)) := us_at l t (by omega)
  have h2 : (t : Int) < ((8 : Nat) : Int) := by omega
  unfold execOp
  rw [ho]
  simp only [hx, hy, Instr.index, asIntOf, Sem.run_bind, Sem.run_pure, Result.andThen_ok, run_underlying Try.underlying67, Try.sizeOf66]
  rw [if_pos ⟨by omega, h2⟩]
  simp [part, hc, Sem.run_bind, Try.sizeOf66, Try.isAgg66, Result.andThen]
theorem ev_index28 {ops : Array Oper} {rest : List Oper} {o : Oper} {a : Act} {Q : Exit → Act → World → Prop} {w : World} {x y : Operand} (l : List Int) (t : Nat) (hgd : o.guard = none) (ho : o.op = .index 28 x y) (hx : a.eval x = .agg (is l)) (hy : a.eval y = .int .i64 (t : Int)) (ht : t < 8) (hl : l.length = 8) (h : wpList Try.prog ops Q rest (a.put o.dst (.int .i64 (l.getD t 0))) w) : wpList Try.prog ops Q (o :: rest) a w := Kd.event_run hgd (index28 _ _ _ _ _ l t ho hx hy ht hl) h
theorem ev_index67 {ops : Array Oper} {rest : List Oper} {o : Oper} {a : Act} {Q : Exit → Act → World → Prop} {w : World} {x y : Operand} (l : List Int) (t : Nat) (hgd : o.guard = none) (ho : o.op = .index 67 x y) (hx : a.eval x = .agg (us l)) (hy : a.eval y = .int .i64 (t : Int)) (ht : t < 8) (hl : l.length = 8) (h : wpList Try.prog ops Q rest (a.put o.dst (.int .u32 (l.getD t 0))) w) : wpList Try.prog ops Q (o :: rest) a w := Kd.event_run hgd (index67 _ _ _ _ _ l t ho hx hy ht hl) h
set_option maxHeartbeats 8000000 in
set_option maxRecDepth 100000 in
theorem words_calls (H : V8) (r : Value) (m : Int) (w : World) (hH : wrapV H = H) : Calls Try.prog 61 #[.agg (stC H.l r m)] w fun e w' => e = .returned (.agg H.u) ∧ Below w.heap.size w w' := by
  have HR := Aside0.mk hH
  clear hH
  show Calls Try.prog 61 #[.agg #[.int .i64 H.a, .int .i64 H.b, .int .i64 H.c, .int .i64 H.d, .int .i64 H.e, .int .i64 H.f, .int .i64 H.g, .int .i64 H.h, r, .int .i64 m]] w _
  go_enter Try.func61, Try.ntmps61
  go_wp2
  go_loopg [9] 8 (fun gk v9 wr => ∃ t : Nat, t + gk = 8 ∧ v9 = .int .i64 (t : Int) ∧ Aside0 (wr.heap[w.heap.size + 1]? = some (.cells (us (List.replicate 8 0)) 67 (0, 0))) ∧ Aside0 (wr.heap[w.heap.size + 2]? = some (.cells (us (fillL (fun i => H.l.getD i 0 % 4294967296) 8 t)) 67 (0, 0))) ∧ Aside0 (Below w.heap.size w wr))
  case atStart => exact ⟨0, rfl, rfl, ⟨blk_alloc (alloc_at (size_alloc _ _) _) _⟩, ⟨alloc_at (by rw [size_alloc, size_alloc]) _⟩, ⟨below_alloc (below_alloc (below_alloc (Below.refl _ _) _) _) _⟩⟩
  case round =>
    obtain ⟨t, ht, rfl, HZ, HO, HB⟩ := hrel
    by_cases hlt : (t : Int) < 8
    · have ht2 : t < 8 := by omega
      have cw := cell_at HO.out t
      rw [us_at _ _ (by rw [fillL_length]; omega)] at cw
      have cf := free_at HO.out t
      go_wp2_with ((with_reducible refine gate_dst (N := 12) rfl ?_); refine ev_index28 (x := .tmp 8) (y := .tmp 9) H.l t rfl rfl rfl rfl ht2 rfl ?_)
      go_roundg (8 - (t + 1))
      case measure => omega
      case rel =>
        refine ⟨t + 1, by omega, by go_num, ⟨(heap_other _ _ _ _ _ (by omega)).trans HZ.out⟩, ⟨?_⟩, ⟨below_set HB.out (by omega)⟩⟩
        refine (heap_set HO.out _ _).trans ?_
        rw [us_set]
        rfl
    · obtain rfl : t = 8 := by omega
      clear hlt
      have HO' : Aside0 (wr.heap[w.heap.size + 2]? = some (.cells (wrapV H).u 67 (0, 0))) := HO
      rw [HR.out] at HO'
      go_wp2_with (first | ((with_reducible refine gate_dst (N := 18) rfl ?_); refine load_ev (t := 67) (x := .tmp 3) (g := w.heap.size + 2) rfl rfl rfl Try.underlying67 rfl HO'.out (by kernel_rfl) ?_) | ((with_reducible refine gate_store (t := 67) (p := 2) (v := .tmp 18) rfl ?_); refine store_row (t := 67) (p := 2) (y := .tmp 18) (g := w.heap.size + 1) rfl rfl rfl rfl rfl HZ.out (by kernel_rfl) rfl (V8.u_one H) ?_; intro w6 hw6 ho6 hB6))
      refine ret_cell rfl Try.underlying67 rfl (by kernel_rfl) rfl hw6 rfl ?_
      exact ⟨rfl, HB.out.trans (hB6 _ (by omega))⟩
end Go.Proofs.Ytgfhbkhbnmgogaa.GFnExactHmac.Hand
