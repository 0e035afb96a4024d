import Derived.Test.YtgfhbkhbnmgogaaGFnExactFeedStrm
import Derived.OpenShut
import Derived.ProofKit
import Derived.WideShapes
import Derived.ChangeSame
namespace Go.Proofs.Ytgfhbkhbnmgogaa.GFnExactFeed.Hand
open Go.RowKit Go.Proofs.YtgfhbkhbnmgogaaW.PrintWords Go.Proofs.YtgfhbkhbnmgogaaW.PrintLast Go.Proofs.YtgfhbkhbnmgogaaW.PrintMore Go.Proofs.Ytgfhbkhbnmgogaa.GFnExactHmac.Hand
set_option linter.unusedVariables false
set_option linter.unusedSimpArgs false
/-! ### an argument that is a stream, laid open -/
section
variable {H : Type} {enc : TypeId × Value → H} {w : World}
theorem bytes_C {fuel : Nat} {cs : List Value} {x : DataW H × List MemPlace} (h : DataW.trod enc Try.prog w 0 (fun _ => true) true fuel 22 cs = some x) :
    ∃ (A : Option Addr) (c : Nat) (l : List Int), cs = [.slice A l.length c] ∧ l.length ≤ c ∧ (Kd.int .u8).C w A l.length l ∧ l.length ≤ maxLen ∧ ∀ n ∈ l, (Lit.int .u8 n).wf = true := by
  rcases Go.ChangeShapes.open_ints Try.underlying22 Try.underlying5 (by kernel_rfl) h with ⟨rfl, _⟩ | ⟨a, len, cap, zs, rfl, _, hl, hm, hz, _, hcell, hw⟩
  · obtain ⟨l, e, hr, hm, hw, hc⟩ := ReadsInt.ofRowC (k := .u8) (w := w) (a := none) (len := 0) (cap := 0) (zs := []) (.inl ⟨rfl, rfl, rfl, rfl⟩)
    exact ⟨none, 0, l, by rw [← e], hc, Kd.C_of_reads (d := (0 : Int)) (h1 := fun _ => rfl) hr, hm, hw⟩
  · obtain ⟨l, e, hr, hm', hw', hc⟩ := ReadsInt.ofRowC (k := .u8) (w := w) (a := some a) (len := len) (cap := cap) (zs := zs) (.inr ⟨a, rfl, hl, hm, by simpa using hz, hcell, hw⟩)
    exact ⟨some a, cap, l, by rw [← e], hc, Kd.C_of_reads (d := (0 : Int)) (h1 := fun _ => rfl) hr, hm', hw'⟩
theorem array10 {α : Type} {cs : Array α} (h : cs.size = 10) : ∃ c0 c1 c2 c3 c4 c5 c6 c7 c8 c9, cs = #[c0, c1, c2, c3, c4, c5, c6, c7, c8, c9] := by
  obtain ⟨l⟩ := cs
  match l, h with
  | [c0, c1, c2, c3, c4, c5, c6, c7, c8, c9], _ => exact ⟨c0, c1, c2, c3, c4, c5, c6, c7, c8, c9, rfl⟩
theorem ints8 {fuel : Nat} {c0 c1 c2 c3 c4 c5 c6 c7 : Value} {x : DataW H × List MemPlace} (h : DataW.trod enc Try.prog w 0 (fun _ => true) true fuel 28 [c0, c1, c2, c3, c4, c5, c6, c7] = some x) :
    ∃ V : V8, c0 = .int .i64 V.a ∧ c1 = .int .i64 V.b ∧ c2 = .int .i64 V.c ∧ c3 = .int .i64 V.d ∧ c4 = .int .i64 V.e ∧ c5 = .int .i64 V.f ∧ c6 = .int .i64 V.g ∧ c7 = .int .i64 V.h := by
  obtain ⟨xs, m, _, _, _, hlen, hel⟩ := DataW.trod_array Try.underlying28 h
  have c1' : Try.prog.cellsOf 3 = 1 := by kernel_rfl
  rw [c1'] at hel
  have one : ∀ (i : Nat) (u : Value), i < 8 → (([c0, c1, c2, c3, c4, c5, c6, c7].drop (i * 1)).take 1) = [u] → ∃ z, u = .int .i64 z := fun i u hi he => by
    have h1 := hel i hi
    rw [he, List.getElem?_eq_getElem (by omega)] at h1
    obtain ⟨z, e, _⟩ := DataW.trod_int Try.underlying3 h1
    simp only [List.cons.injEq, and_true] at e
    exact ⟨z, e⟩
  obtain ⟨z0, e0⟩ := one 0 c0 (by decide) rfl
  obtain ⟨z1, e1⟩ := one 1 c1 (by decide) rfl
  obtain ⟨z2, e2⟩ := one 2 c2 (by decide) rfl
  obtain ⟨z3, e3⟩ := one 3 c3 (by decide) rfl
  obtain ⟨z4, e4⟩ := one 4 c4 (by decide) rfl
  obtain ⟨z5, e5⟩ := one 5 c5 (by decide) rfl
  obtain ⟨z6, e6⟩ := one 6 c6 (by decide) rfl
  obtain ⟨z7, e7⟩ := one 7 c7 (by decide) rfl
  exact ⟨⟨z0, z1, z2, z3, z4, z5, z6, z7⟩, e0, e1, e2, e3, e4, e5, e6, e7⟩
theorem stream_open {base : Nat} {v : Value} {d : DataW H} {p : List MemPlace} (hv : Value.okWide Try.prog w .any base 30 v) (h : DataW.Trod enc Try.prog w 0 (fun _ => true) true 30 v d p) :
    ∃ (V : V8) (A : Option Addr) (c : Nat) (l : List Int) (m : Int), v = .agg (stC V.l (.slice A l.length c) m) ∧ l.length ≤ c ∧ (Kd.int .u8).C w A l.length l ∧ l.length ≤ maxLen ∧ (Lit.int .i64 m).wf = true := by
  obtain ⟨cs, rfl, hsz⟩ := Go.WideShapes.okWide_struct Try.underlying30 hv
  have c10 : Try.prog.cellsOf 30 = 10 := by kernel_rfl
  have cA : Try.prog.cellsOf 28 = 8 := by kernel_rfl
  have cB : Try.prog.cellsOf 22 = 1 := by kernel_rfl
  have cI : Try.prog.cellsOf 3 = 1 := by kernel_rfl
  obtain ⟨c0, c1, c2, c3, c4, c5, c6, c7, c8, c9, rfl⟩ := array10 (hsz.trans c10)
  obtain ⟨fuel, hf⟩ := h
  obtain ⟨xs, n, _, _, _, hlen, hf⟩ := DataW.trod_struct Try.underlying30 hf
  have l3 : xs.length = 3 := hlen
  have h0 : DataW.trod enc Try.prog w 0 (fun _ => true) true n 28 (([c0, c1, c2, c3, c4, c5, c6, c7, c8, c9].drop 0).take (Try.prog.cellsOf 28)) = xs[0]? := hf 0 _ rfl
  have h1 : DataW.trod enc Try.prog w 0 (fun _ => true) true n 22 (([c0, c1, c2, c3, c4, c5, c6, c7, c8, c9].drop 8).take (Try.prog.cellsOf 22)) = xs[1]? := hf 1 _ rfl
  have h2 : DataW.trod enc Try.prog w 0 (fun _ => true) true n 3 (([c0, c1, c2, c3, c4, c5, c6, c7, c8, c9].drop 9).take (Try.prog.cellsOf 3)) = xs[2]? := hf 2 _ rfl
  rw [cA, List.getElem?_eq_getElem (by omega)] at h0
  rw [cB, List.getElem?_eq_getElem (by omega)] at h1
  rw [cI, List.getElem?_eq_getElem (by omega)] at h2
  replace h0 : DataW.trod enc Try.prog w 0 (fun _ => true) true n 28 [c0, c1, c2, c3, c4, c5, c6, c7] = some xs[0] := h0
  replace h1 : DataW.trod enc Try.prog w 0 (fun _ => true) true n 22 [c8] = some xs[1] := h1
  replace h2 : DataW.trod enc Try.prog w 0 (fun _ => true) true n 3 [c9] = some xs[2] := h2
  obtain ⟨V, rfl, rfl, rfl, rfl, rfl, rfl, rfl, rfl⟩ := ints8 h0
  obtain ⟨A1, k1, l, e1, hc1, hC1, hm, hw⟩ := bytes_C h1
  obtain ⟨z2, e2, _, w2⟩ := DataW.trod_int Try.underlying3 h2
  simp only [List.cons.injEq, and_true] at e1 e2
  subst e1 e2
  exact ⟨V, A1, k1, l, z2, rfl, hc1, hC1, hm, w2⟩
end
end Go.Proofs.Ytgfhbkhbnmgogaa.GFnExactFeed.Hand
