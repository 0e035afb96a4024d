import Derived.Test.YtgfhbkhbnmgogaaGFnExactFeedStrOk
import Derived.Test.YtgfhbkhbnmgogaaGFnExactHmacSDig
namespace Go.Proofs.Ytgfhbkhbnmgogaa.GFnExactFeed.Hand
open Go.RowKit Go.Proofs.YtgfhbkhbnmgogaaW.PrintWords Go.Proofs.YtgfhbkhbnmgogaaW.PrintLast Go.Proofs.YtgfhbkhbnmgogaaW.PrintMore Go.Proofs.Ytgfhbkhbnmgogaa.GFnExactHmac.Hand
set_option linter.unusedVariables false
set_option linter.unusedSimpArgs false
/-! ### impl.Digest (22), spec.Digest (21) -/
def dgR (H : V8) (rs : List Int) (m : Int) : List Int := if okS H rs.length m = true then digL H rs m.toNat else []
theorem dgR_length (H : V8) (rs : List Int) (m : Int) : (dgR H rs m).length ≤ 32 := by
  unfold dgR
  by_cases h : okS H rs.length m = true
  · rw [if_pos h, digL, outL_length]; exact Nat.le_refl _
  · rw [if_neg h]; simp
set_option maxHeartbeats 8000000 in
set_option maxRecDepth 100000 in
theorem dg_calls (H : V8) (A : Option Addr) (n c : Nat) (rs : List Int) (m : Int) (w : World) (hC : KB.C w A n rs) (en : rs.length = n) (hc : n ≤ c) (hm : -9223372036854775808 ≤ m ∧ m < 9223372036854775808) (hn : n ≤ maxLen) :
    Calls Try.prog 22 #[.agg (stC H.l (.slice A n c) m)] w fun e w' => ∃ v, e = .returned v ∧ KB.R 5 w' w.heap.size (fun _ => True) v (dgR H rs m) ∧ Below w.heap.size w w' := by
  have HC := Aside0.mk hC
  have EN := Aside0.mk en
  have HBX : Aside0 ((w.alloc (.cells #[.int .i64 H.a, .int .i64 H.b, .int .i64 H.c, .int .i64 H.d, .int .i64 H.e, .int .i64 H.f, .int .i64 H.g, .int .i64 H.h, .slice A n c, .int .i64 m] 32)).heap[w.heap.size]? = some (.cells (stC H.l (.slice A n c) m) 32 (0, 0))) := ⟨heap_alloc_last _ _⟩
  obtain ⟨b, hb⟩ : ∃ b, okS H n m = b := ⟨_, rfl⟩
  have HOK : Aside0 (∀ w : World, Calls Try.prog 39 #[.agg (stC H.l (.slice A n c) m)] w fun e w' => e = .returned (.bool b) ∧ Below w.heap.size w w') := ⟨fun w => by rw [← hb]; exact ok_calls H A n c m w hm hn⟩
  clear hC
  cases b with
  | false =>
    have HE : Aside0 (dgR H rs m = []) := ⟨by rw [dgR, en, hb]; rfl⟩
    clear en hb
    show Calls Try.prog 22 #[.agg #[.int .i64 H.a, .int .i64 H.b, .int .i64 H.c, .int .i64 H.d, .int .i64 H.e, .int .i64 H.f, .int .i64 H.g, .int .i64 H.h, .slice A n c, .int .i64 m]] w _
    go_enter Try.func22, Try.ntmps22
    go_wp2_with ((with_reducible refine gate_dst (N := 3) rfl ?_); refine load_ev (t := 32) (x := .tmp 1) (g := w.heap.size) rfl rfl rfl Try.underlying32 rfl HBX.out (by rw [stC_size]; kernel_rfl) ?_)
    refine (HOK.out _).mono ?_
    rintro e w1 ⟨rfl, hb1⟩
    have HB1 := Aside0.mk (below_step (below_alloc (Below.refl w.heap.size w) _) hb1)
    clear hb1
    go_wp2
    go_ret
    exact ⟨_, rfl, by rw [HE.out]; exact Kd.R_nil _ _ _ _ _, HB1.out⟩
  | true =>
    obtain ⟨hw, mn, rfl, hm1, hm2⟩ := okS_wrap hb
    have HE : Aside0 (dgR H rs (mn : Int) = digL H rs mn) := ⟨by rw [dgR, en, hb, Int.toNat_natCast]; rfl⟩
    have HW := Aside0.mk hw
    have HM := Aside0.mk hm2
    clear en hb hw hm2
    show Calls Try.prog 22 #[.agg #[.int .i64 H.a, .int .i64 H.b, .int .i64 H.c, .int .i64 H.d, .int .i64 H.e, .int .i64 H.f, .int .i64 H.g, .int .i64 H.h, .slice A n c, .int .i64 (mn : Int)]] w _
    go_enter Try.func22, Try.ntmps22
    go_wp2_with ((with_reducible refine gate_dst (N := 3) rfl ?_); refine load_ev (t := 32) (x := .tmp 1) (g := w.heap.size) rfl rfl rfl Try.underlying32 rfl HBX.out (by rw [stC_size]; kernel_rfl) ?_)
    refine (HOK.out _).mono ?_
    rintro e w1 ⟨rfl, hb1⟩
    have HB1 := Aside0.mk (below_step (below_alloc (Below.refl w.heap.size w) _) hb1)
    have HBX1 := Aside0.mk (blk_below HBX.out hb1)
    clear hb1
    go_wp2_with ((with_reducible refine gate_dst (N := 6) rfl ?_); refine load_ev (t := 32) (x := .tmp 1) (g := w.heap.size) rfl rfl rfl Try.underlying32 rfl HBX1.out (by rw [stC_size]; kernel_rfl) ?_)
    refine (digest_calls H A n c rs mn _ HW.out (Kd.C_below HC.out HB1.out) EN.out (by have := HM.out; omega) hm1).mono ?_
    rintro e w2 ⟨v, rfl, hr, hb2⟩
    rw [← HE.out] at hr
    have HR := Aside0.mk (Kd.R_lower hr HB1.out.size)
    have HB2 := Aside0.mk (below_step HB1.out hb2)
    clear hr hb2
    go_wp2
    go_ret
    exact ⟨_, rfl, HR.out, HB2.out⟩
set_option maxHeartbeats 8000000 in
set_option maxRecDepth 100000 in
theorem sdg_calls (H : V8) (A : Option Addr) (n c : Nat) (rs : List Int) (m : Int) (w : World) (hC : KB.C w A n rs) (en : rs.length = n) (hc : n ≤ c) (hm : -9223372036854775808 ≤ m ∧ m < 9223372036854775808) (hn : n ≤ maxLen) :
    Calls Try.prog 21 #[.agg (stC H.l (.slice A n c) m)] w fun e w' => ∃ v, e = .returned v ∧ KB.R 5 w' w.heap.size (fun _ => True) v (dgR H rs m) ∧ Below w.heap.size w w' := by
  have HC := Aside0.mk hC
  have EN := Aside0.mk en
  have HBX : Aside0 ((w.alloc (.cells #[.int .i64 H.a, .int .i64 H.b, .int .i64 H.c, .int .i64 H.d, .int .i64 H.e, .int .i64 H.f, .int .i64 H.g, .int .i64 H.h, .slice A n c, .int .i64 m] 32)).heap[w.heap.size]? = some (.cells (stC H.l (.slice A n c) m) 32 (0, 0))) := ⟨heap_alloc_last _ _⟩
  obtain ⟨b, hb⟩ : ∃ b, okS H n m = b := ⟨_, rfl⟩
  have HOK : Aside0 (∀ w : World, Calls Try.prog 35 #[.agg (stC H.l (.slice A n c) m)] w fun e w' => e = .returned (.bool b) ∧ Below w.heap.size w w') := ⟨fun w => by rw [← hb]; exact sok_calls H A n c m w hm hn⟩
  clear hC
  cases b with
  | false =>
    have HE : Aside0 (dgR H rs m = []) := ⟨by rw [dgR, en, hb]; rfl⟩
    clear en hb
    show Calls Try.prog 21 #[.agg #[.int .i64 H.a, .int .i64 H.b, .int .i64 H.c, .int .i64 H.d, .int .i64 H.e, .int .i64 H.f, .int .i64 H.g, .int .i64 H.h, .slice A n c, .int .i64 m]] w _
    go_enter Try.func21, Try.ntmps21
    go_wp2_with ((with_reducible refine gate_dst (N := 3) rfl ?_); refine load_ev (t := 32) (x := .tmp 1) (g := w.heap.size) rfl rfl rfl Try.underlying32 rfl HBX.out (by rw [stC_size]; kernel_rfl) ?_)
    refine (HOK.out _).mono ?_
    rintro e w1 ⟨rfl, hb1⟩
    have HB1 := Aside0.mk (below_step (below_alloc (Below.refl w.heap.size w) _) hb1)
    clear hb1
    go_wp2
    go_ret
    exact ⟨_, rfl, by rw [HE.out]; exact u8lit (base := w.heap.size) w1 [] (by decide) HB1.out.size, below_alloc HB1.out _⟩
  | true =>
    obtain ⟨hw, mn, rfl, hm1, hm2⟩ := okS_wrap hb
    have HE : Aside0 (dgR H rs (mn : Int) = digL H rs mn) := ⟨by rw [dgR, en, hb, Int.toNat_natCast]; rfl⟩
    have HW := Aside0.mk hw
    have HM := Aside0.mk hm2
    clear en hb hw hm2
    show Calls Try.prog 21 #[.agg #[.int .i64 H.a, .int .i64 H.b, .int .i64 H.c, .int .i64 H.d, .int .i64 H.e, .int .i64 H.f, .int .i64 H.g, .int .i64 H.h, .slice A n c, .int .i64 (mn : Int)]] w _
    go_enter Try.func21, Try.ntmps21
    go_wp2_with ((with_reducible refine gate_dst (N := 3) rfl ?_); refine load_ev (t := 32) (x := .tmp 1) (g := w.heap.size) rfl rfl rfl Try.underlying32 rfl HBX.out (by rw [stC_size]; kernel_rfl) ?_)
    refine (HOK.out _).mono ?_
    rintro e w1 ⟨rfl, hb1⟩
    have HB1 := Aside0.mk (below_step (below_alloc (Below.refl w.heap.size w) _) hb1)
    have HBX1 := Aside0.mk (blk_below HBX.out hb1)
    clear hb1
    go_wp2_with ((with_reducible refine gate_dst (N := 7) rfl ?_); refine load_ev (t := 32) (x := .tmp 1) (g := w.heap.size) rfl rfl rfl Try.underlying32 rfl HBX1.out (by rw [stC_size]; kernel_rfl) ?_)
    refine (sdigest_calls H A n c rs mn _ HW.out (Kd.C_below HC.out HB1.out) EN.out hc HM.out hm1).mono ?_
    rintro e w2 ⟨v, rfl, hr, hb2⟩
    rw [← HE.out] at hr
    have HR := Aside0.mk (Kd.R_lower hr HB1.out.size)
    have HB2 := Aside0.mk (below_step HB1.out hb2)
    clear hr hb2
    go_wp2
    go_ret
    exact ⟨_, rfl, HR.out, HB2.out⟩
end Go.Proofs.Ytgfhbkhbnmgogaa.GFnExactFeed.Hand
