import Derived.Test.YtgfhbkhbnmgogaaGFnExactHmacSDig
import Derived.Test.YtgfhbkhbnmgogaaGFnExactHmacSha2
namespace Go.Proofs.Ytgfhbkhbnmgogaa.GFnExactHmac.Hand
open Go.RowKit Go.Proofs.YtgfhbkhbnmgogaaW.PrintWords Go.Proofs.YtgfhbkhbnmgogaaW.PrintLast Go.Proofs.YtgfhbkhbnmgogaaW.PrintMore
set_option linter.unusedVariables false
set_option linter.unusedSimpArgs false
/-! ### spec.NewStream (56), spec.Sha (28), spec.l5Pad (29) -/
set_option maxHeartbeats 8000000 in
set_option maxRecDepth 100000 in
theorem snew_calls (w : World) : Calls Try.prog 56 #[] w fun e w' => e = .returned (.agg (stC startV.l (.slice none 0 0) 0)) ∧ Below w.heap.size w w' := by
  have HS : Aside0 (∀ w : World, Calls Try.prog 65 #[] w fun e w' => e = .returned (.agg #[.int .i64 1779033703, .int .i64 3144134277, .int .i64 1013904242, .int .i64 2773480762, .int .i64 1359893119, .int .i64 2600822924, .int .i64 528734635, .int .i64 1541459225]) ∧ Below w.heap.size w w') := ⟨start_calls⟩
  go_enter Try.func56, Try.ntmps56
  go_wp2_with fail
  refine (HS.out _).mono ?_
  rintro e w1 ⟨rfl, hb1⟩
  have hz : w1.heap[w.heap.size]? = some (.cells (stC (List.replicate 8 0) (.slice none 0 0) 0) 32 (0, 0)) := blk_below (heap_alloc_last w _) hb1
  have HZ := Aside0.mk hz
  have HB := Aside0.mk (below_step (below_alloc (Below.refl w.heap.size w) _) hb1)
  clear hz hb1
  go_wp2_with ((with_reducible refine gate_store (t := 32) (p := 0) (v := .tmp 2) rfl ?_); refine halt_ ?_)
  unfold Halt_
  refine store_row (t := 32) (p := 0) (y := .tmp 2) (g := w.heap.size) (c' := stC startV.l (.slice none 0 0) 0) rfl rfl rfl rfl rfl HZ.out (by rw [stC_size]; kernel_rfl) (by rw [stC_size, stC_size]; rfl) (stC_one _ _ _ _ _) ?_
  intro w6 hw6 ho6 hB6
  go_wp2
  refine ret_cell rfl Try.underlying32 rfl (by rw [stC_size]; kernel_rfl) rfl hw6 rfl ?_
  exact ⟨rfl, HB.out.trans (hB6 _ (Nat.le_refl _))⟩
set_option maxHeartbeats 8000000 in
set_option maxRecDepth 100000 in
theorem ssha_calls (A : Option Addr) (n c : Nat) (xs : List Int) (w : World) (hC : (Kd.int .u8).C w A n xs) (hn : xs.length = n) (hl : n ≤ 20000) :
    Calls Try.prog 28 #[.slice A n c] w fun e w' => ∃ v, e = .returned v ∧ (Kd.int .u8).R 5 w' w.heap.size (fun _ => True) v (shaL xs) ∧ Below w.heap.size w w' := by
  have HC := Aside0.mk hC
  have HN := Aside0.mk hn
  clear hC hn
  obtain ⟨F, hF⟩ : ∃ F, feedL (n / 64) startV xs = F := ⟨_, rfl⟩
  have HS : Aside0 (shaL xs = digL F.1 F.2 n) := ⟨by rw [shaL, HN.out, hF]⟩
  have HL : Aside0 (F.2.length = n % 64) := ⟨by rw [← hF, feedL_rest, HN.out]; omega⟩
  have HW : Aside0 (wrapV F.1 = F.1) := ⟨by rw [← hF]; exact feedL_wrap _ _ _ start_wrap⟩
  have HF := Aside0.mk hF
  have hgt : decide ((20000 : Int) < (n : Int)) = false := decide_eq_false (by omega)
  clear hF
  go_enter Try.func28, Try.ntmps28
  go_wp2_with fail
  refine (snew_calls _).mono ?_
  rintro e w1 ⟨rfl, hb1⟩
  have HB1 := Aside0.mk hb1
  clear hb1
  go_wp2_with fail
  refine (sfeed_calls startV none 0 0 [] 0 A n c xs w1 start_wrap ⟨rfl, by simp, fun h => absurd h (by simp)⟩ rfl (Nat.le_refl _) (Kd.C_below HC.out HB1.out) HN.out (by omega) (by omega) (by omega)).mono ?_
  rintro e w2 ⟨A2, c2, rfl, hc2, hraw, hb2⟩
  rw [Nat.zero_add, List.nil_append, HF.out] at hraw hc2 ⊢
  have HRAW := Aside0.mk hraw
  have HC2 := Aside0.mk hc2
  have HB2 := Aside0.mk (below_step HB1.out hb2)
  clear hraw hb2 hc2
  go_wp2_with fail
  refine (sdigest_calls F.1 A2 F.2.length c2 F.2 n w2 HW.out (HRAW.out.C (by rw [HL.out]; omega)) rfl HC2.out HL.out hl).mono ?_
  rintro e w3 ⟨v, rfl, hr3, hb3⟩
  rw [← HS.out] at hr3
  have HR3 := Aside0.mk (Kd.R_lower hr3 HB2.out.size)
  have HB3 := Aside0.mk (below_step HB2.out hb3)
  clear hr3 hb3
  go_wp2
  go_ret
  exact ⟨_, rfl, HR3.out, HB3.out⟩
end Go.Proofs.Ytgfhbkhbnmgogaa.GFnExactHmac.Hand
