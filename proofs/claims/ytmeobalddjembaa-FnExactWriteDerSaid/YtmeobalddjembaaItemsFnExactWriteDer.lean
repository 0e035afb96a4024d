-- This text was written by hand (wip/hand/RowItems.lean); Lean checks it.
import Derived.Test.YtmeobalddjembaaGFnExactWriteDerx0
import Derived.OpenShut
import Derived.ProofKit
namespace Go.Proofs.Ytmeobalddjembaa.GFnExactWriteDer
open Go.RowKit Go.Proofs.YtmeobalddjembaaW.PrintWords Go.Proofs.YtmeobalddjembaaW.PrintLast Go.Proofs.YtmeobalddjembaaW.PrintMore
set_option linter.unusedVariables false
/-! ### an argument that is a slice of items: laid open -/
section
variable {H : Type} {enc : TypeId × Value → H} {w : World}
structure WfItem (x : S50) : Prop where
  tag : (Lit.int .i64 x.f0).wf = true
  kids : (Lit.int .i64 x.f2).wf = true
  body : ∀ n ∈ x.f1, (Lit.int .u8 n).wf = true
  len : x.f1.length ≤ maxLen
theorem bytes_C {fuel : Nat} {cs : List Value} {x : DataW H × List MemPlace} (h : DataW.trod enc Try.prog w 0 (fun _ => true) true fuel 38 cs = some x) :
    ∃ (A : Option Addr) (c : Nat) (l : List Int), cs = [.slice A l.length c] ∧ l.length ≤ c ∧ (Kd.int .u8).C w A l.length l ∧ l.length ≤ maxLen ∧ ∀ n ∈ l, (Lit.int .u8 n).wf = true := by
  rcases Go.ChangeShapes.open_ints Try.underlying38 Try.underlying5 (by kernel_rfl) h with ⟨rfl, _⟩ | ⟨a, len, cap, zs, rfl, _, hl, hm, hz, _, hcell, hw⟩
  · obtain ⟨l, e, hr, hm, hw, hc⟩ := ReadsInt.ofRowC (k := .u8) (w := w) (a := none) (len := 0) (cap := 0) (zs := []) (.inl ⟨rfl, rfl, rfl, rfl⟩)
    exact ⟨none, 0, l, by rw [← e], hc, Kd.C_of_reads (d := (0 : Int)) (h1 := fun _ => rfl) hr, hm, hw⟩
  · obtain ⟨l, e, hr, hm', hw', hc⟩ := ReadsInt.ofRowC (k := .u8) (w := w) (a := some a) (len := len) (cap := cap) (zs := zs) (.inr ⟨a, rfl, hl, hm, by simpa using hz, hcell, hw⟩)
    exact ⟨some a, cap, l, by rw [← e], hc, Kd.C_of_reads (d := (0 : Int)) (h1 := fun _ => rfl) hr, hm', hw'⟩
theorem item_K {fuel : Nat} {cs : List Value} {y : DataW H × List MemPlace} (h : DataW.trod enc Try.prog w 0 (fun _ => true) true fuel 50 cs = some y) : ∃ x : S50, k50.K w x cs ∧ WfItem x := by
  obtain ⟨xs, n, _, _, hl, hlen, hf⟩ := DataW.trod_struct Try.underlying50 h
  have c3 : Try.prog.cellsOf 50 = 3 := by kernel_rfl
  have c1 : Try.prog.cellsOf 3 = 1 := by kernel_rfl
  have cB : Try.prog.cellsOf 38 = 1 := by kernel_rfl
  rw [c3] at hl
  match cs, hl with
  | [u0, u1, u2], _ =>
    have l3 : xs.length = 3 := hlen
    have h0 : DataW.trod enc Try.prog w 0 (fun _ => true) true n 3 (([u0, u1, u2].drop 0).take (Try.prog.cellsOf 3)) = xs[0]? := hf 0 _ rfl
    have h1 : DataW.trod enc Try.prog w 0 (fun _ => true) true n 38 (([u0, u1, u2].drop 1).take (Try.prog.cellsOf 38)) = xs[1]? := hf 1 _ rfl
    have h2 : DataW.trod enc Try.prog w 0 (fun _ => true) true n 3 (([u0, u1, u2].drop 2).take (Try.prog.cellsOf 3)) = xs[2]? := hf 2 _ rfl
    rw [c1, List.getElem?_eq_getElem (by omega)] at h0 h2
    rw [cB, List.getElem?_eq_getElem (by omega)] at h1
    replace h0 : DataW.trod enc Try.prog w 0 (fun _ => true) true n 3 [u0] = some xs[0] := h0
    replace h1 : DataW.trod enc Try.prog w 0 (fun _ => true) true n 38 [u1] = some xs[1] := h1
    replace h2 : DataW.trod enc Try.prog w 0 (fun _ => true) true n 3 [u2] = some xs[2] := h2
    obtain ⟨z0, e0, _, w0⟩ := DataW.trod_int Try.underlying3 h0
    obtain ⟨z2, e2, _, w2⟩ := DataW.trod_int Try.underlying3 h2
    obtain ⟨A1, k1, l, e1, hc1, hC1, hm, hw⟩ := bytes_C h1
    simp only [List.cons.injEq, and_true] at e0 e1 e2
    subst e0 e1 e2
    exact ⟨⟨z0, l, z2⟩, k50_mk w ⟨z0, l, z2⟩ hc1 hC1, ⟨w0, w2, hw, hm⟩⟩
theorem items_C {fuel : Nat} {cs : List Value} {x : DataW H × List MemPlace} (h : DataW.trod enc Try.prog w 0 (fun _ => true) true fuel 22 cs = some x) :
    ∃ (A : Option Addr) (c : Nat) (l : List S50), cs = [.slice A l.length c] ∧ l.length ≤ c ∧ Kd.C k50 w A l.length l ∧ l.length ≤ maxLen ∧ ∀ z ∈ l, WfItem z := by
  rcases DataW.trod_slice Try.underlying22 h with ⟨rfl, _⟩ | ⟨a, len, cap, elems, rest, n, _, rfl, _, _, hl, hm, hlen, hel, _, _⟩
  · exact ⟨none, 0, [], rfl, Nat.le_refl _, ⟨rfl, by simp, fun h => absurd h (by simp)⟩, by simp, fun z hz => by cases hz⟩
  · have key : ∀ i : Fin len, ∃ z : S50, WfItem z ∧ ∃ c : List Value, c.length = 3 ∧ k50.K w z c ∧ ∀ j u, c[j]? = some u → w.cell? (a.add (i.val * 3 + j)) = some u := by
      intro i
      have hi := hel i.val i.isLt
      have c3 : Try.prog.cellsOf 50 = 3 := by kernel_rfl
      rw [c3, List.getElem?_eq_getElem (by omega)] at hi
      obtain ⟨cs', hcs, ht⟩ := Option.bind_eq_some_iff.1 hi
      obtain ⟨z, hK, hz⟩ := item_K ht
      obtain ⟨_, hn, hc⟩ := World.cells?_some hcs
      refine ⟨z, hz, cs', hn, hK, fun j u hj => ?_⟩
      have hjl : j < 3 := by
        have := (List.getElem?_eq_some_iff.1 hj).1
        omega
      have e : (a.add (i.val * 3)).add j = a.add (i.val * 3 + j) := Addr.add_add a _ _
      rw [← e, hc j hjl, hj]
    have hlm : (List.ofFn fun i => Classical.choose (key i)).length = len := by simp
    refine ⟨some a, cap, List.ofFn fun i => Classical.choose (key i), by rw [hlm], by rw [hlm]; exact hl, ⟨rfl, by rw [hlm]; unfold maxLen at hm; omega, fun _ => ⟨a, rfl, fun j p hp => ?_⟩⟩, by rw [hlm]; omega, fun z hz => ?_⟩
    · have hj : j < len := by
        have := (List.getElem?_eq_some_iff.1 hp).1
        omega
      rw [List.getElem?_ofFn, dif_pos hj] at hp
      obtain rfl := Option.some.inj hp
      obtain ⟨c, q1, q2, q3⟩ := (Classical.choose_spec (key ⟨j, hj⟩)).2
      exact ⟨c, q1, q2, q3⟩
    · obtain ⟨i, rfl⟩ := List.mem_ofFn.1 hz
      exact (Classical.choose_spec (key i)).1
end

end Go.Proofs.Ytmeobalddjembaa.GFnExactWriteDer
