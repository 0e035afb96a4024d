import Derived.Test.YtgfhbkhbnmgogaaGFnExactFeedDigLaw
import Derived.Test.YtgfhbkhbnmgogaaGFnExactFeedStrOpen
namespace Go.Proofs.Ytgfhbkhbnmgogaa.GFnExactDigest.Hand
open Go.RowKit Go.Proofs.YtgfhbkhbnmgogaaW.PrintWords Go.Proofs.YtgfhbkhbnmgogaaW.PrintLast Go.Proofs.YtgfhbkhbnmgogaaW.PrintMore Go.Proofs.Ytgfhbkhbnmgogaa.GFnExactHmac.Hand Go.Proofs.Ytgfhbkhbnmgogaa.GFnExactFeed.Hand Go.Proofs.Ytgfhbkhbnmgogaa.GFnExactFeed
set_option linter.unusedVariables false
set_option linter.unusedSimpArgs false
set_option maxHeartbeats 16000000 in
set_option maxRecDepth 100000 in
theorem law_big (H : V8) (A : Option Addr) (n c : Nat) (rs : List Int) (m : Int) (w : World) (hC : KB.C w A n rs) (en : rs.length = n) (hc : n ≤ c) (hn : n > 1048576) (hl : n ≤ maxLen) :
    Calls Try.prog 5 #[.agg (stC H.l (.slice A n c) m)] w fun e w' => e = .returned (.bool true) ∧ Below w.heap.size w w' := by
  have hsz := sz_calls H A n c rs m (w.alloc (.cells #[.int .i64 H.a, .int .i64 H.b, .int .i64 H.c, .int .i64 H.d, .int .i64 H.e, .int .i64 H.f, .int .i64 H.g, .int .i64 H.h, .slice A n c, .int .i64 m] 30)) (Kd.C_alloc hC _) en hc hl
  rw [if_neg (by omega)] at hsz
  have HSZ := Aside0.mk hsz
  have HBX : Aside0 ((w.alloc (.cells #[.int .i64 H.a, .int .i64 H.b, .int .i64 H.c, .int .i64 H.d, .int .i64 H.e, .int .i64 H.f, .int .i64 H.g, .int .i64 H.h, .slice A n c, .int .i64 m] 30)).heap[w.heap.size]? = some (.cells (stC H.l (.slice A n c) m) 30 (0, 0))) := ⟨heap_alloc_last _ _⟩
  clear hC en hsz
  show Calls Try.prog 5 #[.agg #[.int .i64 H.a, .int .i64 H.b, .int .i64 H.c, .int .i64 H.d, .int .i64 H.e, .int .i64 H.f, .int .i64 H.g, .int .i64 H.h, .slice A n c, .int .i64 m]] w _
  go_enter Try.func5, Try.ntmps5
  go_wp2_with ((with_reducible refine gate_dst (N := 11) rfl ?_); refine load_ev (t := 30) (x := .tmp 1) (g := w.heap.size) rfl rfl rfl Try.underlying30 rfl HBX.out (by rw [stC_size]; kernel_rfl) ?_)
  refine HSZ.out.mono ?_
  rintro e w1 ⟨rfl, hb⟩
  have HB1 := Aside0.mk (below_step (below_alloc (Below.refl w.heap.size w) _) hb)
  clear hb
  go_wp2
  go_ret
  exact ⟨rfl, HB1.out⟩
/-- What is asked of the argument; the law then says 'true'. -/
def LawOk (k : Nat) (V : V8) (l : List Int) (m : Int) : Prop := l.length > 1048576 ∨ (l.length ≤ 1048576 ∧ ∃ (r mk0 mr : List Int), dgR V l m = r ∧ laws_toByteS.f k l = some l ∧ laws_eqByteS.f k l l = some true ∧ laws_eqByteS.f k r r = some true ∧
    laws_markByteS.f k l 1 = some (1 + (l.length : Int), mk0) ∧ laws_markByteS.f k r 1 = some (1 + (r.length : Int), mr) ∧ mr.length = r.length ∧ laws_heldByteS.f k mr 1 = some (1 + (r.length : Int)))
def Pure : Prop := ∀ (V : V8) (l : List Int) (m : Int), ∃ k, LawOk k V l m
theorem walk (P : Pure) {H : Type} {enc : TypeId × Value → H} {base : Nat} {v : Value} {d : DataW H} {p : List MemPlace} (w : World) (hv : Value.okWide Try.prog w .any base 30 v) (h : DataW.Trod enc Try.prog w 0 (fun _ => true) true 30 v d p) :
    Calls Try.prog 5 #[v] w fun e w' => e = .returned (.bool true) ∧ Below w.heap.size w w' := by
  obtain ⟨V, A, c, l, m, rfl, hc, hC, hm, hw⟩ := stream_open hv h
  have hm2 : -9223372036854775808 ≤ m ∧ m < 9223372036854775808 := by have := Base.wf64 hw; omega
  obtain ⟨k, hb | ⟨hl, r, mk0, mr, h1, h2, h3, h4, h5, h6, h7, h8⟩⟩ := P V l m
  · exact law_big V A l.length c l m w hC rfl hc hb hm
  · exact dlaw_in k V A l.length c l r mk0 mr m w hC rfl hc hl hm2 h1 h2 h3 h4 h5 h6 h7 h8
end Go.Proofs.Ytgfhbkhbnmgogaa.GFnExactDigest.Hand
