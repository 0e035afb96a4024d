import Derived.Test.YtgfhbkhbnmgogaaGFnExactHmacInv
import Derived.Deep.RegionHeld3
namespace Go.Proofs.Ytgfhbkhbnmgogaa.GFnExactHmac.Hand
open Go.RowKit Go.Proofs.YtgfhbkhbnmgogaaW.PrintWords Go.Proofs.YtgfhbkhbnmgogaaW.PrintLast Go.Proofs.YtgfhbkhbnmgogaaW.PrintMore
set_option linter.unusedVariables false
set_option linter.unusedSimpArgs false
theorem fore_of {ops : Array Oper} (h : (List.range ops.size).all (fun j => match ops[j]? with | some o => o.after.all (fun e => decide (e.on < j)) | none => true) = true) : Fore ops := by
  intro j o ho e he
  have hj : j < ops.size := (Array.getElem?_eq_some_iff.1 ho).1
  have h1 := List.all_eq_true.1 h j (by simpa using hj)
  simp only [ho] at h1
  have h2 := Array.all_eq_true_iff_forall_mem.1 h1 e he
  simpa using h2
theorem getD_self {L : Array Bool} {i : Nat} (h : L.getD i true = false) : (L.setIfInBounds i true).getD i false = true := by
  have hi : i < L.size := by
    rcases Nat.lt_or_ge i L.size with h1 | h1
    · exact h1
    · simp [Array.getD, Nat.not_lt.2 h1] at h
  simp [Array.getD, hi]
theorem getD_no {L : Array Bool} {i : Nat} (h : L.getD i true = false) (h2 : L.getD i false = true) : False := by
  rcases Nat.lt_or_ge i L.size with h1 | h1
  · simp [Array.getD, h1] at h h2
    rw [h] at h2
    cases h2
  · simp [Array.getD, Nat.not_lt.2 h1] at h
/-- Bytes that lie in a block of their own behind n0 + 1. -/
def RawB (n0 : Nat) (w : World) (A : Option Addr) (n : Nat) (xs : List Int) : Prop :=
  xs.length = n ∧ (xs = [] ∨ ∃ g cur, A = some ⟨g, 0, none⟩ ∧ n0 + 1 < g ∧ w.heap[g]? = some (.cells cur 5 (0, 0)) ∧ ∀ i, i < xs.length → cur[i]? = some (.int .u8 (xs.getD i 0)))
theorem RawB.C {n0 : Nat} {w : World} {A : Option Addr} {n : Nat} {xs : List Int} (h : RawB n0 w A n xs) (hl : xs.length ≤ 1000000) : (Kd.int .u8).C w A n xs := by
  obtain ⟨h1, h2⟩ := h
  subst h1
  rcases h2 with rfl | ⟨g, cur, rfl, _, hg, hc⟩
  · exact ⟨rfl, by simp, fun h => absurd h (by simp)⟩
  · refine ⟨rfl, by omega, fun _ => ⟨_, rfl, fun j p hp => ⟨[.int .u8 p], rfl, rfl, fun i u hu => ?_⟩⟩⟩
    cases i with
    | succ i => simp at hu
    | zero =>
      obtain rfl : (.int .u8 p : Value) = u := by simpa using hu
      have hj : j < xs.length := (List.getElem?_eq_some_iff.1 hp).1
      have a : (Addr.add ⟨g, 0, none⟩ (j * (Kd.int .u8).sz + 0) : Addr) = ⟨g, j, none⟩ := by
        show (Addr.add ⟨g, 0, none⟩ (j * 1 + 0) : Addr) = _
        simp [Addr.add]
        omega
      rw [a, cell_at hg j, hc j hj, List.getD_eq_getElem?_getD, hp]
      rfl
theorem RawB.move {n0 : Nat} {w w' : World} {A : Option Addr} {n : Nat} {xs : List Int} (h : RawB n0 w A n xs) (hm : ∀ (g : Nat) (cur : Array Value), w.heap[g]? = some (.cells cur 5 (0, 0)) → w'.heap[g]? = some (.cells cur 5 (0, 0))) : RawB n0 w' A n xs := by
  obtain ⟨h1, h2⟩ := h
  refine ⟨h1, h2.imp id ?_⟩
  rintro ⟨g, cur, e, h3, h4, h5⟩
  exact ⟨g, cur, e, h3, hm g cur h4, h5⟩
theorem RawB.of_R {n0 : Nat} {w : World} {base : Nat} {ok : Nat → Prop} {A : Option Addr} {n c : Nat} {xs : List Int} (h : (Kd.int .u8).R 5 w base ok (.slice A n c) xs) (hn : xs.length = n) (hb : n0 + 1 < base) : RawB n0 w A n xs := by
  refine ⟨hn, ?_⟩
  by_cases e : xs = []
  · exact .inl e
  · obtain ⟨g, cap, cur, hv, hg, hc, ha⟩ := int_raw h e
    injection hv with e1 e2 e3
    exact .inr ⟨g, cur, e1, by omega, hc, ha⟩
/-- What the beginning of 'fed' has done so far. -/
structure Fx (H : V8) (Ar : Option Addr) (nr cr : Nat) (rs : List Int) (m : Nat) (Ad : Option Addr) (nd cd : Nat) (ds : List Int) (w0 : World) (L : Array Bool) (x5 x6 x7 x11 x12 x13 x14 x15 x16 x17 x18 : Value) (w : World) : Prop where
  bw : Below w0.heap.size w0 w
  hb : w.heap[w0.heap.size]? = some (.cells (stC H.l (.slice Ar nr cr) (m : Int)) 32 (0, 0))
  hz : w.heap[w0.heap.size + 1]? = some (.cells (stC (List.replicate 8 0) (.slice none 0 0) 0) 32 (0, 0))
  k10 : L.getD 10 false = true → L.getD 8 false = true
  k11 : L.getD 11 false = true → L.getD 9 false = true
  k12 : L.getD 12 false = true → L.getD 7 false = true
  f0 : L.getD 0 false = true → x11 = .agg (stC H.l (.slice Ar nr cr) (m : Int))
  f1 : L.getD 1 false = true → x12 = .agg H.u
  f2 : L.getD 2 false = true → x13 = .agg (us keysL)
  f3 : L.getD 3 false = true → x14 = .pointer (some ⟨w0.heap.size, 8, none⟩)
  f4 : L.getD 4 false = true → x15 = .slice Ar nr cr
  f5 : L.getD 5 false = true → x16 = .slice Ad nd cd
  f6 : L.getD 6 false = true → ∃ g, x17 = .slice (some ⟨g, 0, none⟩) 2 2 ∧ w.heap[g]? = some (.cells #[.slice Ar nr cr, .slice Ad nd cd] 22 (0, 0))
  f7 : L.getD 7 false = true → ∃ A c, x18 = .slice A (nr + nd) c ∧ nr + nd ≤ c ∧ RawB w0.heap.size w A (nr + nd) (rs ++ ds)
  f8 : L.getD 8 false = true → ∃ g c, x5 = .pointer (some ⟨g, 0, none⟩) ∧ w0.heap.size + 1 < g ∧ w.heap[g]? = some (.cells c 67 (0, 0)) ∧ c.size = 8 ∧ (L.getD 10 false = true → c = H.u)
  f9 : L.getD 9 false = true → ∃ g c, x6 = .pointer (some ⟨g, 0, none⟩) ∧ w0.heap.size + 1 < g ∧ w.heap[g]? = some (.cells c 69 (0, 0)) ∧ c.size = 64 ∧ (L.getD 11 false = true → c = us keysL)
  f12 : L.getD 12 false = true → x7 = x18
theorem Fx.move {H : V8} {Ar : Option Addr} {nr cr : Nat} {rs : List Int} {m : Nat} {Ad : Option Addr} {nd cd : Nat} {ds : List Int} {w0 : World} {L : Array Bool} {x5 x6 x7 x11 x12 x13 x14 x15 x16 x17 x18 : Value} {w w' : World} (F : Fx H Ar nr cr rs m Ad nd cd ds w0 L x5 x6 x7 x11 x12 x13 x14 x15 x16 x17 x18 w) (hb : Below w0.heap.size w w') (hk : ∀ (k : Nat) (o : Obj), w.heap[k]? = some o → w'.heap[k]? = some o) : Fx H Ar nr cr rs m Ad nd cd ds w0 L x5 x6 x7 x11 x12 x13 x14 x15 x16 x17 x18 w' where
  bw := F.bw.trans hb
  hb := hk _ _ F.hb
  hz := hk _ _ F.hz
  k10 := F.k10
  k11 := F.k11
  k12 := F.k12
  f0 := F.f0
  f1 := F.f1
  f2 := F.f2
  f3 := F.f3
  f4 := F.f4
  f5 := F.f5
  f6 := fun h => by
    obtain ⟨g, e, h1⟩ := F.f6 h
    exact ⟨g, e, hk _ _ h1⟩
  f7 := fun h => by
    obtain ⟨A, c, e, hc, h1⟩ := F.f7 h
    exact ⟨A, c, e, hc, h1.move (fun _ _ h => hk _ _ h)⟩
  f8 := fun h => by
    obtain ⟨g, c, e, h1, h2, h3⟩ := F.f8 h
    exact ⟨g, c, e, h1, hk _ _ h2, h3⟩
  f9 := fun h => by
    obtain ⟨g, c, e, h1, h2, h3⟩ := F.f9 h
    exact ⟨g, c, e, h1, hk _ _ h2, h3⟩
  f12 := F.f12
theorem Fx.set0 {H : V8} {Ar : Option Addr} {nr cr : Nat} {rs : List Int} {m : Nat} {Ad : Option Addr} {nd cd : Nat} {ds : List Int} {w0 : World} {L : Array Bool} {x5 x6 x7 x11 x12 x13 x14 x15 x16 x17 x18 : Value} {v : Value} {w : World} (F : Fx H Ar nr cr rs m Ad nd cd ds w0 L x5 x6 x7 x11 x12 x13 x14 x15 x16 x17 x18 w) (hun : L.getD 0 true = false) (hnew : v = .agg (stC H.l (.slice Ar nr cr) (m : Int))) : Fx H Ar nr cr rs m Ad nd cd ds w0 (L.setIfInBounds 0 true) x5 x6 x7 v x12 x13 x14 x15 x16 x17 x18 w where
  bw := F.bw
  hb := F.hb
  hz := F.hz
  k10 := fun h => by rw [getD_ne (by decide)] at h ⊢; exact F.k10 h
  k11 := fun h => by rw [getD_ne (by decide)] at h ⊢; exact F.k11 h
  k12 := fun h => by rw [getD_ne (by decide)] at h ⊢; exact F.k12 h
  f0 := fun _ => hnew
  f1 := fun h => F.f1 (by rw [getD_ne (by decide)] at h; exact h)
  f2 := fun h => F.f2 (by rw [getD_ne (by decide)] at h; exact h)
  f3 := fun h => F.f3 (by rw [getD_ne (by decide)] at h; exact h)
  f4 := fun h => F.f4 (by rw [getD_ne (by decide)] at h; exact h)
  f5 := fun h => F.f5 (by rw [getD_ne (by decide)] at h; exact h)
  f6 := fun h => F.f6 (by rw [getD_ne (by decide)] at h; exact h)
  f7 := fun h => F.f7 (by rw [getD_ne (by decide)] at h; exact h)
  f8 := fun h => by
    rw [getD_ne (by decide)] at h
    obtain ⟨g, c, e, h1, h2, h3, h4⟩ := F.f8 h
    exact ⟨g, c, e, h1, h2, h3, fun h => by rw [getD_ne (by decide)] at h; exact h4 h⟩
  f9 := fun h => by
    rw [getD_ne (by decide)] at h
    obtain ⟨g, c, e, h1, h2, h3, h4⟩ := F.f9 h
    exact ⟨g, c, e, h1, h2, h3, fun h => by rw [getD_ne (by decide)] at h; exact h4 h⟩
  f12 := fun h => F.f12 (by rw [getD_ne (by decide)] at h; exact h)
theorem Fx.set1 {H : V8} {Ar : Option Addr} {nr cr : Nat} {rs : List Int} {m : Nat} {Ad : Option Addr} {nd cd : Nat} {ds : List Int} {w0 : World} {L : Array Bool} {x5 x6 x7 x11 x12 x13 x14 x15 x16 x17 x18 : Value} {v : Value} {w : World} (F : Fx H Ar nr cr rs m Ad nd cd ds w0 L x5 x6 x7 x11 x12 x13 x14 x15 x16 x17 x18 w) (hun : L.getD 1 true = false) (hnew : v = .agg H.u) : Fx H Ar nr cr rs m Ad nd cd ds w0 (L.setIfInBounds 1 true) x5 x6 x7 x11 v x13 x14 x15 x16 x17 x18 w where
  bw := F.bw
  hb := F.hb
  hz := F.hz
  k10 := fun h => by rw [getD_ne (by decide)] at h ⊢; exact F.k10 h
  k11 := fun h => by rw [getD_ne (by decide)] at h ⊢; exact F.k11 h
  k12 := fun h => by rw [getD_ne (by decide)] at h ⊢; exact F.k12 h
  f0 := fun h => F.f0 (by rw [getD_ne (by decide)] at h; exact h)
  f1 := fun _ => hnew
  f2 := fun h => F.f2 (by rw [getD_ne (by decide)] at h; exact h)
  f3 := fun h => F.f3 (by rw [getD_ne (by decide)] at h; exact h)
  f4 := fun h => F.f4 (by rw [getD_ne (by decide)] at h; exact h)
  f5 := fun h => F.f5 (by rw [getD_ne (by decide)] at h; exact h)
  f6 := fun h => F.f6 (by rw [getD_ne (by decide)] at h; exact h)
  f7 := fun h => F.f7 (by rw [getD_ne (by decide)] at h; exact h)
  f8 := fun h => by
    rw [getD_ne (by decide)] at h
    obtain ⟨g, c, e, h1, h2, h3, h4⟩ := F.f8 h
    exact ⟨g, c, e, h1, h2, h3, fun h => by rw [getD_ne (by decide)] at h; exact h4 h⟩
  f9 := fun h => by
    rw [getD_ne (by decide)] at h
    obtain ⟨g, c, e, h1, h2, h3, h4⟩ := F.f9 h
    exact ⟨g, c, e, h1, h2, h3, fun h => by rw [getD_ne (by decide)] at h; exact h4 h⟩
  f12 := fun h => F.f12 (by rw [getD_ne (by decide)] at h; exact h)
theorem Fx.set2 {H : V8} {Ar : Option Addr} {nr cr : Nat} {rs : List Int} {m : Nat} {Ad : Option Addr} {nd cd : Nat} {ds : List Int} {w0 : World} {L : Array Bool} {x5 x6 x7 x11 x12 x13 x14 x15 x16 x17 x18 : Value} {v : Value} {w : World} (F : Fx H Ar nr cr rs m Ad nd cd ds w0 L x5 x6 x7 x11 x12 x13 x14 x15 x16 x17 x18 w) (hun : L.getD 2 true = false) (hnew : v = .agg (us keysL)) : Fx H Ar nr cr rs m Ad nd cd ds w0 (L.setIfInBounds 2 true) x5 x6 x7 x11 x12 v x14 x15 x16 x17 x18 w where
  bw := F.bw
  hb := F.hb
  hz := F.hz
  k10 := fun h => by rw [getD_ne (by decide)] at h ⊢; exact F.k10 h
  k11 := fun h => by rw [getD_ne (by decide)] at h ⊢; exact F.k11 h
  k12 := fun h => by rw [getD_ne (by decide)] at h ⊢; exact F.k12 h
  f0 := fun h => F.f0 (by rw [getD_ne (by decide)] at h; exact h)
  f1 := fun h => F.f1 (by rw [getD_ne (by decide)] at h; exact h)
  f2 := fun _ => hnew
  f3 := fun h => F.f3 (by rw [getD_ne (by decide)] at h; exact h)
  f4 := fun h => F.f4 (by rw [getD_ne (by decide)] at h; exact h)
  f5 := fun h => F.f5 (by rw [getD_ne (by decide)] at h; exact h)
  f6 := fun h => F.f6 (by rw [getD_ne (by decide)] at h; exact h)
  f7 := fun h => F.f7 (by rw [getD_ne (by decide)] at h; exact h)
  f8 := fun h => by
    rw [getD_ne (by decide)] at h
    obtain ⟨g, c, e, h1, h2, h3, h4⟩ := F.f8 h
    exact ⟨g, c, e, h1, h2, h3, fun h => by rw [getD_ne (by decide)] at h; exact h4 h⟩
  f9 := fun h => by
    rw [getD_ne (by decide)] at h
    obtain ⟨g, c, e, h1, h2, h3, h4⟩ := F.f9 h
    exact ⟨g, c, e, h1, h2, h3, fun h => by rw [getD_ne (by decide)] at h; exact h4 h⟩
  f12 := fun h => F.f12 (by rw [getD_ne (by decide)] at h; exact h)
theorem Fx.set3 {H : V8} {Ar : Option Addr} {nr cr : Nat} {rs : List Int} {m : Nat} {Ad : Option Addr} {nd cd : Nat} {ds : List Int} {w0 : World} {L : Array Bool} {x5 x6 x7 x11 x12 x13 x14 x15 x16 x17 x18 : Value} {v : Value} {w : World} (F : Fx H Ar nr cr rs m Ad nd cd ds w0 L x5 x6 x7 x11 x12 x13 x14 x15 x16 x17 x18 w) (hun : L.getD 3 true = false) (hnew : v = .pointer (some ⟨w0.heap.size, 8, none⟩)) : Fx H Ar nr cr rs m Ad nd cd ds w0 (L.setIfInBounds 3 true) x5 x6 x7 x11 x12 x13 v x15 x16 x17 x18 w where
  bw := F.bw
  hb := F.hb
  hz := F.hz
  k10 := fun h => by rw [getD_ne (by decide)] at h ⊢; exact F.k10 h
  k11 := fun h => by rw [getD_ne (by decide)] at h ⊢; exact F.k11 h
  k12 := fun h => by rw [getD_ne (by decide)] at h ⊢; exact F.k12 h
  f0 := fun h => F.f0 (by rw [getD_ne (by decide)] at h; exact h)
  f1 := fun h => F.f1 (by rw [getD_ne (by decide)] at h; exact h)
  f2 := fun h => F.f2 (by rw [getD_ne (by decide)] at h; exact h)
  f3 := fun _ => hnew
  f4 := fun h => F.f4 (by rw [getD_ne (by decide)] at h; exact h)
  f5 := fun h => F.f5 (by rw [getD_ne (by decide)] at h; exact h)
  f6 := fun h => F.f6 (by rw [getD_ne (by decide)] at h; exact h)
  f7 := fun h => F.f7 (by rw [getD_ne (by decide)] at h; exact h)
  f8 := fun h => by
    rw [getD_ne (by decide)] at h
    obtain ⟨g, c, e, h1, h2, h3, h4⟩ := F.f8 h
    exact ⟨g, c, e, h1, h2, h3, fun h => by rw [getD_ne (by decide)] at h; exact h4 h⟩
  f9 := fun h => by
    rw [getD_ne (by decide)] at h
    obtain ⟨g, c, e, h1, h2, h3, h4⟩ := F.f9 h
    exact ⟨g, c, e, h1, h2, h3, fun h => by rw [getD_ne (by decide)] at h; exact h4 h⟩
  f12 := fun h => F.f12 (by rw [getD_ne (by decide)] at h; exact h)
theorem Fx.set4 {H : V8} {Ar : Option Addr} {nr cr : Nat} {rs : List Int} {m : Nat} {Ad : Option Addr} {nd cd : Nat} {ds : List Int} {w0 : World} {L : Array Bool} {x5 x6 x7 x11 x12 x13 x14 x15 x16 x17 x18 : Value} {v : Value} {w : World} (F : Fx H Ar nr cr rs m Ad nd cd ds w0 L x5 x6 x7 x11 x12 x13 x14 x15 x16 x17 x18 w) (hun : L.getD 4 true = false) (hnew : v = .slice Ar nr cr) : Fx H Ar nr cr rs m Ad nd cd ds w0 (L.setIfInBounds 4 true) x5 x6 x7 x11 x12 x13 x14 v x16 x17 x18 w where
  bw := F.bw
  hb := F.hb
  hz := F.hz
  k10 := fun h => by rw [getD_ne (by decide)] at h ⊢; exact F.k10 h
  k11 := fun h => by rw [getD_ne (by decide)] at h ⊢; exact F.k11 h
  k12 := fun h => by rw [getD_ne (by decide)] at h ⊢; exact F.k12 h
  f0 := fun h => F.f0 (by rw [getD_ne (by decide)] at h; exact h)
  f1 := fun h => F.f1 (by rw [getD_ne (by decide)] at h; exact h)
  f2 := fun h => F.f2 (by rw [getD_ne (by decide)] at h; exact h)
  f3 := fun h => F.f3 (by rw [getD_ne (by decide)] at h; exact h)
  f4 := fun _ => hnew
  f5 := fun h => F.f5 (by rw [getD_ne (by decide)] at h; exact h)
  f6 := fun h => F.f6 (by rw [getD_ne (by decide)] at h; exact h)
  f7 := fun h => F.f7 (by rw [getD_ne (by decide)] at h; exact h)
  f8 := fun h => by
    rw [getD_ne (by decide)] at h
    obtain ⟨g, c, e, h1, h2, h3, h4⟩ := F.f8 h
    exact ⟨g, c, e, h1, h2, h3, fun h => by rw [getD_ne (by decide)] at h; exact h4 h⟩
  f9 := fun h => by
    rw [getD_ne (by decide)] at h
    obtain ⟨g, c, e, h1, h2, h3, h4⟩ := F.f9 h
    exact ⟨g, c, e, h1, h2, h3, fun h => by rw [getD_ne (by decide)] at h; exact h4 h⟩
  f12 := fun h => F.f12 (by rw [getD_ne (by decide)] at h; exact h)
theorem Fx.set5 {H : V8} {Ar : Option Addr} {nr cr : Nat} {rs : List Int} {m : Nat} {Ad : Option Addr} {nd cd : Nat} {ds : List Int} {w0 : World} {L : Array Bool} {x5 x6 x7 x11 x12 x13 x14 x15 x16 x17 x18 : Value} {v : Value} {w : World} (F : Fx H Ar nr cr rs m Ad nd cd ds w0 L x5 x6 x7 x11 x12 x13 x14 x15 x16 x17 x18 w) (hun : L.getD 5 true = false) (hnew : v = .slice Ad nd cd) : Fx H Ar nr cr rs m Ad nd cd ds w0 (L.setIfInBounds 5 true) x5 x6 x7 x11 x12 x13 x14 x15 v x17 x18 w where
  bw := F.bw
  hb := F.hb
  hz := F.hz
  k10 := fun h => by rw [getD_ne (by decide)] at h ⊢; exact F.k10 h
  k11 := fun h => by rw [getD_ne (by decide)] at h ⊢; exact F.k11 h
  k12 := fun h => by rw [getD_ne (by decide)] at h ⊢; exact F.k12 h
  f0 := fun h => F.f0 (by rw [getD_ne (by decide)] at h; exact h)
  f1 := fun h => F.f1 (by rw [getD_ne (by decide)] at h; exact h)
  f2 := fun h => F.f2 (by rw [getD_ne (by decide)] at h; exact h)
  f3 := fun h => F.f3 (by rw [getD_ne (by decide)] at h; exact h)
  f4 := fun h => F.f4 (by rw [getD_ne (by decide)] at h; exact h)
  f5 := fun _ => hnew
  f6 := fun h => F.f6 (by rw [getD_ne (by decide)] at h; exact h)
  f7 := fun h => F.f7 (by rw [getD_ne (by decide)] at h; exact h)
  f8 := fun h => by
    rw [getD_ne (by decide)] at h
    obtain ⟨g, c, e, h1, h2, h3, h4⟩ := F.f8 h
    exact ⟨g, c, e, h1, h2, h3, fun h => by rw [getD_ne (by decide)] at h; exact h4 h⟩
  f9 := fun h => by
    rw [getD_ne (by decide)] at h
    obtain ⟨g, c, e, h1, h2, h3, h4⟩ := F.f9 h
    exact ⟨g, c, e, h1, h2, h3, fun h => by rw [getD_ne (by decide)] at h; exact h4 h⟩
  f12 := fun h => F.f12 (by rw [getD_ne (by decide)] at h; exact h)
theorem Fx.set6 {H : V8} {Ar : Option Addr} {nr cr : Nat} {rs : List Int} {m : Nat} {Ad : Option Addr} {nd cd : Nat} {ds : List Int} {w0 : World} {L : Array Bool} {x5 x6 x7 x11 x12 x13 x14 x15 x16 x17 x18 : Value} {v : Value} {w : World} (F : Fx H Ar nr cr rs m Ad nd cd ds w0 L x5 x6 x7 x11 x12 x13 x14 x15 x16 x17 x18 w) (hun : L.getD 6 true = false) (hnew : ∃ g, v = .slice (some ⟨g, 0, none⟩) 2 2 ∧ w.heap[g]? = some (.cells #[.slice Ar nr cr, .slice Ad nd cd] 22 (0, 0))) : Fx H Ar nr cr rs m Ad nd cd ds w0 (L.setIfInBounds 6 true) x5 x6 x7 x11 x12 x13 x14 x15 x16 v x18 w where
  bw := F.bw
  hb := F.hb
  hz := F.hz
  k10 := fun h => by rw [getD_ne (by decide)] at h ⊢; exact F.k10 h
  k11 := fun h => by rw [getD_ne (by decide)] at h ⊢; exact F.k11 h
  k12 := fun h => by rw [getD_ne (by decide)] at h ⊢; exact F.k12 h
  f0 := fun h => F.f0 (by rw [getD_ne (by decide)] at h; exact h)
  f1 := fun h => F.f1 (by rw [getD_ne (by decide)] at h; exact h)
  f2 := fun h => F.f2 (by rw [getD_ne (by decide)] at h; exact h)
  f3 := fun h => F.f3 (by rw [getD_ne (by decide)] at h; exact h)
  f4 := fun h => F.f4 (by rw [getD_ne (by decide)] at h; exact h)
  f5 := fun h => F.f5 (by rw [getD_ne (by decide)] at h; exact h)
  f6 := fun _ => hnew
  f7 := fun h => F.f7 (by rw [getD_ne (by decide)] at h; exact h)
  f8 := fun h => by
    rw [getD_ne (by decide)] at h
    obtain ⟨g, c, e, h1, h2, h3, h4⟩ := F.f8 h
    exact ⟨g, c, e, h1, h2, h3, fun h => by rw [getD_ne (by decide)] at h; exact h4 h⟩
  f9 := fun h => by
    rw [getD_ne (by decide)] at h
    obtain ⟨g, c, e, h1, h2, h3, h4⟩ := F.f9 h
    exact ⟨g, c, e, h1, h2, h3, fun h => by rw [getD_ne (by decide)] at h; exact h4 h⟩
  f12 := fun h => F.f12 (by rw [getD_ne (by decide)] at h; exact h)
theorem Fx.set7 {H : V8} {Ar : Option Addr} {nr cr : Nat} {rs : List Int} {m : Nat} {Ad : Option Addr} {nd cd : Nat} {ds : List Int} {w0 : World} {L : Array Bool} {x5 x6 x7 x11 x12 x13 x14 x15 x16 x17 x18 : Value} {v : Value} {w : World} (F : Fx H Ar nr cr rs m Ad nd cd ds w0 L x5 x6 x7 x11 x12 x13 x14 x15 x16 x17 x18 w) (hun : L.getD 7 true = false) (hnew : ∃ A c, v = .slice A (nr + nd) c ∧ nr + nd ≤ c ∧ RawB w0.heap.size w A (nr + nd) (rs ++ ds)) : Fx H Ar nr cr rs m Ad nd cd ds w0 (L.setIfInBounds 7 true) x5 x6 x7 x11 x12 x13 x14 x15 x16 x17 v w where
  bw := F.bw
  hb := F.hb
  hz := F.hz
  k10 := fun h => by rw [getD_ne (by decide)] at h ⊢; exact F.k10 h
  k11 := fun h => by rw [getD_ne (by decide)] at h ⊢; exact F.k11 h
  k12 := fun _ => getD_self hun
  f0 := fun h => F.f0 (by rw [getD_ne (by decide)] at h; exact h)
  f1 := fun h => F.f1 (by rw [getD_ne (by decide)] at h; exact h)
  f2 := fun h => F.f2 (by rw [getD_ne (by decide)] at h; exact h)
  f3 := fun h => F.f3 (by rw [getD_ne (by decide)] at h; exact h)
  f4 := fun h => F.f4 (by rw [getD_ne (by decide)] at h; exact h)
  f5 := fun h => F.f5 (by rw [getD_ne (by decide)] at h; exact h)
  f6 := fun h => F.f6 (by rw [getD_ne (by decide)] at h; exact h)
  f7 := fun _ => hnew
  f8 := fun h => by
    rw [getD_ne (by decide)] at h
    obtain ⟨g, c, e, h1, h2, h3, h4⟩ := F.f8 h
    exact ⟨g, c, e, h1, h2, h3, fun h => by rw [getD_ne (by decide)] at h; exact h4 h⟩
  f9 := fun h => by
    rw [getD_ne (by decide)] at h
    obtain ⟨g, c, e, h1, h2, h3, h4⟩ := F.f9 h
    exact ⟨g, c, e, h1, h2, h3, fun h => by rw [getD_ne (by decide)] at h; exact h4 h⟩
  f12 := fun h => by rw [getD_ne (by decide)] at h; exact (getD_no hun (F.k12 h)).elim
theorem Fx.set8 {H : V8} {Ar : Option Addr} {nr cr : Nat} {rs : List Int} {m : Nat} {Ad : Option Addr} {nd cd : Nat} {ds : List Int} {w0 : World} {L : Array Bool} {x5 x6 x7 x11 x12 x13 x14 x15 x16 x17 x18 : Value} {v : Value} {w : World} (F : Fx H Ar nr cr rs m Ad nd cd ds w0 L x5 x6 x7 x11 x12 x13 x14 x15 x16 x17 x18 w) (hun : L.getD 8 true = false) (hnew : ∃ g c, v = .pointer (some ⟨g, 0, none⟩) ∧ w0.heap.size + 1 < g ∧ w.heap[g]? = some (.cells c 67 (0, 0)) ∧ c.size = 8) : Fx H Ar nr cr rs m Ad nd cd ds w0 (L.setIfInBounds 8 true) v x6 x7 x11 x12 x13 x14 x15 x16 x17 x18 w where
  bw := F.bw
  hb := F.hb
  hz := F.hz
  k10 := fun _ => getD_self hun
  k11 := fun h => by rw [getD_ne (by decide)] at h ⊢; exact F.k11 h
  k12 := fun h => by rw [getD_ne (by decide)] at h ⊢; exact F.k12 h
  f0 := fun h => F.f0 (by rw [getD_ne (by decide)] at h; exact h)
  f1 := fun h => F.f1 (by rw [getD_ne (by decide)] at h; exact h)
  f2 := fun h => F.f2 (by rw [getD_ne (by decide)] at h; exact h)
  f3 := fun h => F.f3 (by rw [getD_ne (by decide)] at h; exact h)
  f4 := fun h => F.f4 (by rw [getD_ne (by decide)] at h; exact h)
  f5 := fun h => F.f5 (by rw [getD_ne (by decide)] at h; exact h)
  f6 := fun h => F.f6 (by rw [getD_ne (by decide)] at h; exact h)
  f7 := fun h => F.f7 (by rw [getD_ne (by decide)] at h; exact h)
  f8 := fun _ => by
    obtain ⟨g, c, e, h1, h2, h3⟩ := hnew
    exact ⟨g, c, e, h1, h2, h3, fun h => by rw [getD_ne (by decide)] at h; exact (getD_no hun (F.k10 h)).elim⟩
  f9 := fun h => by
    rw [getD_ne (by decide)] at h
    obtain ⟨g, c, e, h1, h2, h3, h4⟩ := F.f9 h
    exact ⟨g, c, e, h1, h2, h3, fun h => by rw [getD_ne (by decide)] at h; exact h4 h⟩
  f12 := fun h => F.f12 (by rw [getD_ne (by decide)] at h; exact h)
theorem Fx.set9 {H : V8} {Ar : Option Addr} {nr cr : Nat} {rs : List Int} {m : Nat} {Ad : Option Addr} {nd cd : Nat} {ds : List Int} {w0 : World} {L : Array Bool} {x5 x6 x7 x11 x12 x13 x14 x15 x16 x17 x18 : Value} {v : Value} {w : World} (F : Fx H Ar nr cr rs m Ad nd cd ds w0 L x5 x6 x7 x11 x12 x13 x14 x15 x16 x17 x18 w) (hun : L.getD 9 true = false) (hnew : ∃ g c, v = .pointer (some ⟨g, 0, none⟩) ∧ w0.heap.size + 1 < g ∧ w.heap[g]? = some (.cells c 69 (0, 0)) ∧ c.size = 64) : Fx H Ar nr cr rs m Ad nd cd ds w0 (L.setIfInBounds 9 true) x5 v x7 x11 x12 x13 x14 x15 x16 x17 x18 w where
  bw := F.bw
  hb := F.hb
  hz := F.hz
  k10 := fun h => by rw [getD_ne (by decide)] at h ⊢; exact F.k10 h
  k11 := fun _ => getD_self hun
  k12 := fun h => by rw [getD_ne (by decide)] at h ⊢; exact F.k12 h
  f0 := fun h => F.f0 (by rw [getD_ne (by decide)] at h; exact h)
  f1 := fun h => F.f1 (by rw [getD_ne (by decide)] at h; exact h)
  f2 := fun h => F.f2 (by rw [getD_ne (by decide)] at h; exact h)
  f3 := fun h => F.f3 (by rw [getD_ne (by decide)] at h; exact h)
  f4 := fun h => F.f4 (by rw [getD_ne (by decide)] at h; exact h)
  f5 := fun h => F.f5 (by rw [getD_ne (by decide)] at h; exact h)
  f6 := fun h => F.f6 (by rw [getD_ne (by decide)] at h; exact h)
  f7 := fun h => F.f7 (by rw [getD_ne (by decide)] at h; exact h)
  f8 := fun h => by
    rw [getD_ne (by decide)] at h
    obtain ⟨g, c, e, h1, h2, h3, h4⟩ := F.f8 h
    exact ⟨g, c, e, h1, h2, h3, fun h => by rw [getD_ne (by decide)] at h; exact h4 h⟩
  f9 := fun _ => by
    obtain ⟨g, c, e, h1, h2, h3⟩ := hnew
    exact ⟨g, c, e, h1, h2, h3, fun h => by rw [getD_ne (by decide)] at h; exact (getD_no hun (F.k11 h)).elim⟩
  f12 := fun h => F.f12 (by rw [getD_ne (by decide)] at h; exact h)
theorem Fx.set12 {H : V8} {Ar : Option Addr} {nr cr : Nat} {rs : List Int} {m : Nat} {Ad : Option Addr} {nd cd : Nat} {ds : List Int} {w0 : World} {L : Array Bool} {x5 x6 x7 x11 x12 x13 x14 x15 x16 x17 x18 : Value} {v : Value} {w : World} (F : Fx H Ar nr cr rs m Ad nd cd ds w0 L x5 x6 x7 x11 x12 x13 x14 x15 x16 x17 x18 w) (hun : L.getD 12 true = false) (hnew : v = x18) (hdep : L.getD 7 false = true) : Fx H Ar nr cr rs m Ad nd cd ds w0 (L.setIfInBounds 12 true) x5 x6 v x11 x12 x13 x14 x15 x16 x17 x18 w where
  bw := F.bw
  hb := F.hb
  hz := F.hz
  k10 := fun h => by rw [getD_ne (by decide)] at h ⊢; exact F.k10 h
  k11 := fun h => by rw [getD_ne (by decide)] at h ⊢; exact F.k11 h
  k12 := fun _ => by rw [getD_ne (by decide)]; exact hdep
  f0 := fun h => F.f0 (by rw [getD_ne (by decide)] at h; exact h)
  f1 := fun h => F.f1 (by rw [getD_ne (by decide)] at h; exact h)
  f2 := fun h => F.f2 (by rw [getD_ne (by decide)] at h; exact h)
  f3 := fun h => F.f3 (by rw [getD_ne (by decide)] at h; exact h)
  f4 := fun h => F.f4 (by rw [getD_ne (by decide)] at h; exact h)
  f5 := fun h => F.f5 (by rw [getD_ne (by decide)] at h; exact h)
  f6 := fun h => F.f6 (by rw [getD_ne (by decide)] at h; exact h)
  f7 := fun h => F.f7 (by rw [getD_ne (by decide)] at h; exact h)
  f8 := fun h => by
    rw [getD_ne (by decide)] at h
    obtain ⟨g, c, e, h1, h2, h3, h4⟩ := F.f8 h
    exact ⟨g, c, e, h1, h2, h3, fun h => by rw [getD_ne (by decide)] at h; exact h4 h⟩
  f9 := fun h => by
    rw [getD_ne (by decide)] at h
    obtain ⟨g, c, e, h1, h2, h3, h4⟩ := F.f9 h
    exact ⟨g, c, e, h1, h2, h3, fun h => by rw [getD_ne (by decide)] at h; exact h4 h⟩
  f12 := fun _ => hnew
theorem Fx.set10 {H : V8} {Ar : Option Addr} {nr cr : Nat} {rs : List Int} {m : Nat} {Ad : Option Addr} {nd cd : Nat} {ds : List Int} {w0 : World} {L : Array Bool} {x5 x6 x7 x11 x12 x13 x14 x15 x16 x17 x18 : Value} {w w' : World} {g : Nat} {c : Array Value} (F : Fx H Ar nr cr rs m Ad nd cd ds w0 L x5 x6 x7 x11 x12 x13 x14 x15 x16 x17 x18 w) (hun : L.getD 10 true = false) (hdep : L.getD 8 false = true) (hx : x5 = .pointer (some ⟨g, 0, none⟩)) (hg1 : w0.heap.size + 1 < g) (hg : w.heap[g]? = some (.cells c 67 (0, 0))) (hg' : w'.heap[g]? = some (.cells (H.u) 67 (0, 0))) (hk : ∀ (k : Nat), k ≠ g → w'.heap[k]? = w.heap[k]?) (hB : Below w0.heap.size w w') : Fx H Ar nr cr rs m Ad nd cd ds w0 (L.setIfInBounds 10 true) x5 x6 x7 x11 x12 x13 x14 x15 x16 x17 x18 w' := by
  have ho : ∀ (k : Nat) (q : TypeId) (cs : Array Value), q ≠ 67 → w.heap[k]? = some (.cells cs q (0, 0)) → w'.heap[k]? = some (.cells cs q (0, 0)) := fun k q cs hq h => by
    rw [hk k (fun e => ?_)]
    · exact h
    · subst e
      rw [hg] at h
      injection h with h
      injection h with h1 h2
      exact hq h2.symm
  exact {
    bw := F.bw.trans hB
    hb := ho _ _ _ (by decide) F.hb
    hz := ho _ _ _ (by decide) F.hz
    k10 := fun _ => by rw [getD_ne (by decide)]; exact hdep
    k11 := fun h => by rw [getD_ne (by decide)] at h ⊢; exact F.k11 h
    k12 := fun h => by rw [getD_ne (by decide)] at h ⊢; exact F.k12 h
    f0 := fun h => F.f0 (by rw [getD_ne (by decide)] at h; exact h)
    f1 := fun h => F.f1 (by rw [getD_ne (by decide)] at h; exact h)
    f2 := fun h => F.f2 (by rw [getD_ne (by decide)] at h; exact h)
    f3 := fun h => F.f3 (by rw [getD_ne (by decide)] at h; exact h)
    f4 := fun h => F.f4 (by rw [getD_ne (by decide)] at h; exact h)
    f5 := fun h => F.f5 (by rw [getD_ne (by decide)] at h; exact h)
    f6 := fun h => by
      obtain ⟨g, e, h1⟩ := F.f6 (by rw [getD_ne (by decide)] at h; exact h)
      exact ⟨g, e, ho _ _ _ (by decide) h1⟩
    f7 := fun h => by
      obtain ⟨A, c, e, hc, h1⟩ := F.f7 (by rw [getD_ne (by decide)] at h; exact h)
      exact ⟨A, c, e, hc, h1.move (fun _ _ h => ho _ _ _ (by decide) h)⟩
    f8 := fun _ => ⟨g, _, hx, hg1, hg', by first | rfl | exact us_size _, fun _ => rfl⟩
    f9 := fun h => by
      rw [getD_ne (by decide)] at h
      obtain ⟨g, c, e, h1, h2, h3, h4⟩ := F.f9 h
      exact ⟨g, c, e, h1, ho _ _ _ (by decide) h2, h3, fun h => by rw [getD_ne (by decide)] at h; exact h4 h⟩
    f12 := fun h => F.f12 (by rw [getD_ne (by decide)] at h; exact h) }
theorem Fx.set11 {H : V8} {Ar : Option Addr} {nr cr : Nat} {rs : List Int} {m : Nat} {Ad : Option Addr} {nd cd : Nat} {ds : List Int} {w0 : World} {L : Array Bool} {x5 x6 x7 x11 x12 x13 x14 x15 x16 x17 x18 : Value} {w w' : World} {g : Nat} {c : Array Value} (F : Fx H Ar nr cr rs m Ad nd cd ds w0 L x5 x6 x7 x11 x12 x13 x14 x15 x16 x17 x18 w) (hun : L.getD 11 true = false) (hdep : L.getD 9 false = true) (hx : x6 = .pointer (some ⟨g, 0, none⟩)) (hg1 : w0.heap.size + 1 < g) (hg : w.heap[g]? = some (.cells c 69 (0, 0))) (hg' : w'.heap[g]? = some (.cells (us keysL) 69 (0, 0))) (hk : ∀ (k : Nat), k ≠ g → w'.heap[k]? = w.heap[k]?) (hB : Below w0.heap.size w w') : Fx H Ar nr cr rs m Ad nd cd ds w0 (L.setIfInBounds 11 true) x5 x6 x7 x11 x12 x13 x14 x15 x16 x17 x18 w' := by
  have ho : ∀ (k : Nat) (q : TypeId) (cs : Array Value), q ≠ 69 → w.heap[k]? = some (.cells cs q (0, 0)) → w'.heap[k]? = some (.cells cs q (0, 0)) := fun k q cs hq h => by
    rw [hk k (fun e => ?_)]
    · exact h
    · subst e
      rw [hg] at h
      injection h with h
      injection h with h1 h2
      exact hq h2.symm
  exact {
    bw := F.bw.trans hB
    hb := ho _ _ _ (by decide) F.hb
    hz := ho _ _ _ (by decide) F.hz
    k10 := fun h => by rw [getD_ne (by decide)] at h ⊢; exact F.k10 h
    k11 := fun _ => by rw [getD_ne (by decide)]; exact hdep
    k12 := fun h => by rw [getD_ne (by decide)] at h ⊢; exact F.k12 h
    f0 := fun h => F.f0 (by rw [getD_ne (by decide)] at h; exact h)
    f1 := fun h => F.f1 (by rw [getD_ne (by decide)] at h; exact h)
    f2 := fun h => F.f2 (by rw [getD_ne (by decide)] at h; exact h)
    f3 := fun h => F.f3 (by rw [getD_ne (by decide)] at h; exact h)
    f4 := fun h => F.f4 (by rw [getD_ne (by decide)] at h; exact h)
    f5 := fun h => F.f5 (by rw [getD_ne (by decide)] at h; exact h)
    f6 := fun h => by
      obtain ⟨g, e, h1⟩ := F.f6 (by rw [getD_ne (by decide)] at h; exact h)
      exact ⟨g, e, ho _ _ _ (by decide) h1⟩
    f7 := fun h => by
      obtain ⟨A, c, e, hc, h1⟩ := F.f7 (by rw [getD_ne (by decide)] at h; exact h)
      exact ⟨A, c, e, hc, h1.move (fun _ _ h => ho _ _ _ (by decide) h)⟩
    f8 := fun h => by
      rw [getD_ne (by decide)] at h
      obtain ⟨g, c, e, h1, h2, h3, h4⟩ := F.f8 h
      exact ⟨g, c, e, h1, ho _ _ _ (by decide) h2, h3, fun h => by rw [getD_ne (by decide)] at h; exact h4 h⟩
    f9 := fun _ => ⟨g, _, hx, hg1, hg', by first | rfl | exact us_size _, fun _ => rfl⟩
    f12 := fun h => F.f12 (by rw [getD_ne (by decide)] at h; exact h) }
end Go.Proofs.Ytgfhbkhbnmgogaa.GFnExactHmac.Hand
