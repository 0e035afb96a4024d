import Derived.Test.YtgfhbkhbnmgogaaGFnExactHmacSha
namespace Go.Proofs.Ytgfhbkhbnmgogaa.GFnExactHmac.Hand
open Go.RowKit Go.Proofs.YtgfhbkhbnmgogaaW.PrintWords Go.Proofs.YtgfhbkhbnmgogaaW.PrintLast Go.Proofs.YtgfhbkhbnmgogaaW.PrintMore
set_option linter.unusedVariables false
set_option linter.unusedSimpArgs false
set_option maxHeartbeats 2000000 in
theorem start_calls (w : World) : Calls Try.prog 65 #[] w fun e w' => e = .returned (.agg startV.i) ∧ Below w.heap.size w w' := by
  go_enter Try.func65, Try.ntmps65
  go_wp2
  refine ret_cell rfl Try.underlying28 rfl (by kernel_rfl) rfl (heap_alloc_last _ _) rfl ?_
  exact ⟨rfl, below_alloc (Below.refl _ _) _⟩
set_option maxHeartbeats 20000000 in
set_option maxRecDepth 100000 in
theorem keys_calls (w : World) : Calls Try.prog 69 #[] w fun e w' => e = .returned (.agg (us keysL)) ∧ Below w.heap.size w w' := by
  go_enter Try.func69, Try.ntmps69
  go_wp2_with (first | (refine ev_alloc69 rfl rfl ?_) | (refine ev_store69 rfl rfl rfl rfl (c' := us keysL) rfl rfl rfl ?_))
  refine ret_cell rfl Try.underlying69 rfl (by kernel_rfl) rfl (heap_alloc_last _ _) rfl ?_
  exact ⟨rfl, below_alloc (Below.refl _ _) _⟩
end Go.Proofs.Ytgfhbkhbnmgogaa.GFnExactHmac.Hand
