import Derived.Test.YtgfhbkhbnmgogaaGFnExactHmacDgst
namespace Go.Proofs.Ytgfhbkhbnmgogaa.GFnExactHmac.Hand
open Go.RowKit Go.Proofs.YtgfhbkhbnmgogaaW.PrintWords Go.Proofs.YtgfhbkhbnmgogaaW.PrintLast Go.Proofs.YtgfhbkhbnmgogaaW.PrintMore
set_option linter.unusedVariables false
set_option linter.unusedSimpArgs false
/-! ### impl.sha (30), impl.Hmac (10) -/
theorem feedL_rest : ∀ (k : Nat) (h : V8) (a : List Int), (feedL k h a).2.length = a.length - 64 * k
  | 0, h, a => rfl
  | k + 1, h, a => by rw [feedL, feedL_rest k]; simp; omega
theorem feedL_wrap : ∀ (k : Nat) (h : V8) (a : List Int), wrapV h = h → wrapV (feedL k h a).1 = (feedL k h a).1
  | 0, h, a, hw => hw
  | k + 1, h, a, hw => feedL_wrap k _ _ (wrap_blk _ _)
def shaL (a : List Int) : List Int := digL (feedL (a.length / 64) startV a).1 (feedL (a.length / 64) startV a).2 a.length
theorem shaL_length (a : List Int) : (shaL a).length = 32 := by rw [shaL, digL, outL_length]
theorem start_wrap : wrapV startV = startV := by kernel_rfl
set_option maxHeartbeats 8000000 in
set_option maxRecDepth 100000 in
theorem sha_calls (A : Option Addr) (n c : Nat) (xs : List Int) (w : World) (hC : (Kd.int .u8).C w A n xs) (hn : xs.length = n) (hl : n ≤ 20000) :
    Calls Try.prog 30 #[.slice A n c] w fun e w' => ∃ v, e = .returned v ∧ (Kd.int .u8).R 5 w' w.heap.size (fun _ => True) v (shaL xs) ∧ Below w.heap.size w w' := by
  have HC := Aside0.mk hC
  have HN := Aside0.mk hn
  clear hC hn
  obtain ⟨F, hF⟩ : ∃ F, feedL (n / 64) startV xs = F := ⟨_, rfl⟩
  have HS : Aside0 (shaL xs = digL F.1 F.2 n) := ⟨by rw [shaL, HN.out, hF]⟩
  have HL : Aside0 (F.2.length = n - 64 * (n / 64)) := ⟨by rw [← hF, feedL_rest, HN.out]⟩
  have HW : Aside0 (wrapV F.1 = F.1) := ⟨by rw [← hF]; exact feedL_wrap _ _ _ start_wrap⟩
  have HF := Aside0.mk hF
  clear hF
  go_enter Try.func30, Try.ntmps30
  go_wp2_with fail
  refine (newStream_calls _).mono ?_
  rintro e w1 ⟨rfl, hb1⟩
  have HB1 := Aside0.mk hb1
  clear hb1
  go_wp2_with fail
  refine (fed_calls startV none 0 0 [] 0 A n c xs w1 start_wrap ⟨rfl, by simp, fun h => absurd h (by simp)⟩ rfl (Kd.C_below HC.out HB1.out) HN.out (by omega) (by omega) (by omega)).mono ?_
  rintro e w2 ⟨A2, c2, rfl, hraw, hb2⟩
  rw [Nat.zero_add, List.nil_append, HF.out] at hraw ⊢
  have HRAW := Aside0.mk hraw
  have HB2 := Aside0.mk (below_step HB1.out hb2)
  clear hraw hb2
  go_wp2_with fail
  refine (digest_calls F.1 A2 F.2.length c2 F.2 n w2 HW.out (HRAW.out.C (by rw [HL.out]; omega)) rfl (by rw [HL.out]; omega) hl).mono ?_
  rintro e w3 ⟨v, rfl, hr3, hb3⟩
  rw [← HS.out] at hr3
  have HR3 := Aside0.mk (Kd.R_lower hr3 HB2.out.size)
  have HB3 := Aside0.mk (below_step HB2.out hb3)
  clear hr3 hb3
  go_wp2
  go_ret
  exact ⟨_, rfl, HR3.out, HB3.out⟩
end Go.Proofs.Ytgfhbkhbnmgogaa.GFnExactHmac.Hand
