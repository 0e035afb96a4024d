import Derived.Test.YtgfhbkhbnmgogaaGFnExactFeedFeedLaw
import Derived.Test.YtgfhbkhbnmgogaaGFnExactFeedStrOpen
namespace Go.Proofs.Ytgfhbkhbnmgogaa.GFnExactFeed.Top
open Go.RowKit Go.Proofs.YtgfhbkhbnmgogaaW.PrintWords Go.Proofs.YtgfhbkhbnmgogaaW.PrintLast Go.Proofs.YtgfhbkhbnmgogaaW.PrintMore Go.Proofs.Ytgfhbkhbnmgogaa.GFnExactHmac.Hand Go.Proofs.Ytgfhbkhbnmgogaa.GFnExactFeed.Hand Go.Proofs.Ytgfhbkhbnmgogaa.GFnExactFeed
set_option linter.unusedVariables false
set_option linter.unusedSimpArgs false
set_option maxHeartbeats 16000000 in
set_option maxRecDepth 100000 in
theorem law_big (H : V8) (A : Option Addr) (n c : Nat) (rs : List Int) (m : Int) (Ad : Option Addr) (nd cd : Nat) (w : World) (hC : KB.C w A n rs) (en : rs.length = n) (hc : n ≤ c) (hn : n > 1048576) (hl : n ≤ maxLen) (hd : nd ≤ 1048576) :
    Calls Try.prog 4 #[.agg (stC H.l (.slice A n c) m), .slice Ad nd cd] w fun e w' => e = .returned (.bool true) ∧ Below w.heap.size w w' := by
  have hsz := sz_calls H A n c rs m (w.alloc (.cells #[.int .i64 H.a, .int .i64 H.b, .int .i64 H.c, .int .i64 H.d, .int .i64 H.e, .int .i64 H.f, .int .i64 H.g, .int .i64 H.h, .slice A n c, .int .i64 m] 30)) (Kd.C_alloc hC _) en hc hl
  rw [if_neg (by omega)] at hsz
  have HSZ := Aside0.mk hsz
  have HBX : Aside0 ((w.alloc (.cells #[.int .i64 H.a, .int .i64 H.b, .int .i64 H.c, .int .i64 H.d, .int .i64 H.e, .int .i64 H.f, .int .i64 H.g, .int .i64 H.h, .slice A n c, .int .i64 m] 30)).heap[w.heap.size]? = some (.cells (stC H.l (.slice A n c) m) 30 (0, 0))) := ⟨heap_alloc_last _ _⟩
  clear hC en hsz
  show Calls Try.prog 4 #[.agg #[.int .i64 H.a, .int .i64 H.b, .int .i64 H.c, .int .i64 H.d, .int .i64 H.e, .int .i64 H.f, .int .i64 H.g, .int .i64 H.h, .slice A n c, .int .i64 m], .slice Ad nd cd] w _
  go_enter Try.func4, Try.ntmps4
  go_wp2_with ((with_reducible refine gate_dst (N := 20) rfl ?_); refine load_ev (t := 30) (x := .tmp 2) (g := w.heap.size) rfl rfl rfl Try.underlying30 rfl HBX.out (by rw [stC_size]; kernel_rfl) ?_)
  refine HSZ.out.mono ?_
  rintro e w1 ⟨rfl, hb⟩
  have HB1 := Aside0.mk (below_step (below_alloc (Below.refl w.heap.size w) _) hb)
  clear hb
  go_wp2
  go_ret
  exact ⟨rfl, HB1.out⟩
set_option maxHeartbeats 16000000 in
set_option maxRecDepth 100000 in
theorem law_big2 (H : V8) (A : Option Addr) (n c : Nat) (m : Int) (Ad : Option Addr) (nd cd : Nat) (w : World) (hd : nd > 1048576) (hm : nd ≤ maxLen) :
    Calls Try.prog 4 #[.agg (stC H.l (.slice A n c) m), .slice Ad nd cd] w fun e w' => e = .returned (.bool true) ∧ Below w.heap.size w w' := by
  show Calls Try.prog 4 #[.agg #[.int .i64 H.a, .int .i64 H.b, .int .i64 H.c, .int .i64 H.d, .int .i64 H.e, .int .i64 H.f, .int .i64 H.g, .int .i64 H.h, .slice A n c, .int .i64 m], .slice Ad nd cd] w _
  go_enter Try.func4, Try.ntmps4
  go_wp2
  go_ret
  exact ⟨rfl, below_alloc (Below.refl _ _) _⟩
/-- What is asked of the arguments; the law then says 'true'. -/
def LawOk (k : Nat) (H : V8) (l : List Int) (m : Int) (ds : List Int) : Prop := l.length > 1048576 ∨ ds.length > 1048576 ∨ (l.length ≤ 1048576 ∧ ds.length ≤ 1048576 ∧ ∃ (r mk0 mk1 mr : List Int), fdL H l m ds = r ∧ laws_toByteS.f k l = some l ∧ laws_toByteS.f k ds = some ds ∧ laws_eqByteS.f k l l = some true ∧ laws_eqByteS.f k ds ds = some true ∧ laws_eqByteS.f k r r = some true ∧
    laws_markByteS.f k l 1 = some (1 + (l.length : Int), mk0) ∧ laws_markByteS.f k ds (1 + (l.length : Int)) = some (1 + (l.length : Int) + (ds.length : Int), mk1) ∧ laws_markByteS.f k r 1 = some (1 + (r.length : Int), mr) ∧ mr.length = r.length ∧ laws_heldByteS.f k mr 1 = some (1 + (r.length : Int)))
def Pure : Prop := ∀ (H : V8) (l : List Int) (m : Int) (ds : List Int), ∃ k, LawOk k H l m ds
theorem walk (P : Pure) {H : Type} {enc : TypeId × Value → H} {base : Nat} {v : Value} {d : DataW H} {p : List MemPlace} (w : World) (hv : Value.okWide Try.prog w .any base 30 v) (h : DataW.Trod enc Try.prog w 0 (fun _ => true) true 30 v d p)
    (a1 : Option Addr) (len1 cap1 : Nat) (z1 : List Int) (w1 : (a1 = none ∧ len1 = 0 ∧ cap1 = 0 ∧ z1 = []) ∨ ∃ x, a1 = some x ∧ len1 ≤ cap1 ∧ cap1 ≤ maxLen ∧ z1.length = cap1 ∧ (∀ i, i < z1.length → w.cell? (x.add i) = some (.int .u8 (z1.getD i 0))) ∧ ∀ n ∈ z1, (Lit.int .u8 n).wf = true) :
    Calls Try.prog 4 #[v, .slice a1 len1 cap1] w fun e w' => e = .returned (.bool true) ∧ Below w.heap.size w w' := by
  obtain ⟨V, A, c, l, m, rfl, hc, hC, hm, hw⟩ := stream_open hv h
  obtain ⟨ds, rfl, hr1, hm1, hw1, hc1⟩ := ReadsInt.ofRowC w1
  have hC1 : KB.C w a1 ds.length ds := Kd.C_of_reads (d := (0 : Int)) (h1 := fun _ => rfl) hr1
  have hm2 : -9223372036854775808 ≤ m ∧ m < 9223372036854775808 := by have := Base.wf64 hw; omega
  obtain ⟨k, h⟩ := P V l m ds
  by_cases hd : ds.length > 1048576
  · exact law_big2 V A l.length c m a1 ds.length cap1 w hd hm1
  by_cases hl : l.length > 1048576
  · exact law_big V A l.length c l m a1 ds.length cap1 w hC rfl hc hl hm (by omega)
  obtain h | h | ⟨_, _, r, mk0, mk1, mr, h1, h2, h3, h4, h5, h6, h7, h8, h9, h10, h11⟩ := h
  · exact absurd h hl
  · exact absurd h hd
  · exact flaw_in k V (fdV V l m ds) A l.length c l ds r mk0 mk1 mr m (fdM V l m ds) (fdOk V l.length m ds.length) a1 ds.length cap1 w hC rfl hc hC1 rfl hc1 (by omega) (by omega) hm2 rfl h1 rfl rfl h2 h3 h4 h5 h6 h7 h8 h9 h10 h11
end Go.Proofs.Ytgfhbkhbnmgogaa.GFnExactFeed.Top
