import Derived.Test.YtmeobalddjembaaGFnExactChildrenx0
import Derived.Laws.CopyOwn
namespace Go.Proofs.Ytmeobalddjembaa.GFnExactChildren.Hand
open Go.RowKit Go.Proofs.YtmeobalddjembaaW.PrintWords Go.Proofs.YtmeobalddjembaaW.PrintLast Go.Proofs.YtmeobalddjembaaW.PrintMore
set_option linter.unusedVariables false
set_option linter.unusedSimpArgs false
/-! ### laws.markItemS and laws.markByteS on rows of the call's own, told by what they touch alone -/
/-- Blocks of items (type 52) and of bytes (type 5), from base on, may be written; the rest is as it was. -/
structure Touch (base : Nat) (ts : List Nat) (w W : World) : Prop where
  os : W.os = w.os
  tape : W.tape = w.tape
  output : W.output = w.output
  size : W.heap.size = w.heap.size
  low : ∀ k, k < base → W.heap[k]? = w.heap[k]?
  typed : ∀ (k : Nat) (c : Array Value) (t : TypeId) (fz : Nat × Nat), w.heap[k]? = some (Obj.cells c t fz) → t ∉ ts → W.heap[k]? = w.heap[k]?
  alike : ∀ (k : Nat) (c : Array Value) (t : TypeId) (fz : Nat × Nat), w.heap[k]? = some (Obj.cells c t fz) → ∃ c' : Array Value, W.heap[k]? = some (Obj.cells c' t fz) ∧ c'.size = c.size
theorem Touch.refl (base : Nat) (ts : List Nat) (w : World) : Touch base ts w w := ⟨rfl, rfl, rfl, rfl, fun _ _ => rfl, fun _ _ _ _ _ _ => rfl, fun _ c _ _ h => ⟨c, h, rfl⟩⟩
theorem Touch.trans {base : Nat} {ts : List Nat} {a b c : World} (h : Touch base ts a b) (h' : Touch base ts b c) : Touch base ts a c :=
  ⟨h'.os.trans h.os, h'.tape.trans h.tape, h'.output.trans h.output, h'.size.trans h.size, fun k hk => (h'.low k hk).trans (h.low k hk),
    fun k q t fz hq ht => by
      have e := h.typed k q t fz hq ht
      exact (h'.typed k q t fz (e.trans hq) ht).trans e,
    fun k q t fz hq => by
      obtain ⟨q1, e1, s1⟩ := h.alike k q t fz hq
      obtain ⟨q2, e2, s2⟩ := h'.alike k q1 t fz e1
      exact ⟨q2, e2, s2.trans s1⟩⟩
theorem Touch.more {base : Nat} {ts us : List Nat} {a b : World} (h : Touch base ts a b) (hs : ∀ t, t ∈ ts → t ∈ us) : Touch base us a b :=
  ⟨h.os, h.tape, h.output, h.size, h.low, fun k q t fz hq ht => h.typed k q t fz hq (fun x => ht (hs t x)), h.alike⟩
theorem Touch.drew {base : Nat} {ts : List Nat} {a b : World} (h : Touch base ts a b) : Touch base ts a b.drew := ⟨h.os, h.tape, h.output, h.size, h.low, h.typed, h.alike⟩
theorem heap_set {w : World} {g : Nat} {cur : Array Value} {t : TypeId} (h : w.heap[g]? = some (.cells cur t (0, 0))) (o : Nat) (v : Value) : (w.setCell ⟨g, o, none⟩ v).heap[g]? = some (.cells (cur.setIfInBounds o v) t (0, 0)) := by
  simp only [World.setCell, Array.getElem?_modify, if_true, h]
  rfl
theorem heap_other (w : World) (g o : Nat) (v : Value) (k : Nat) (hk : k ≠ g) : (w.setCell ⟨g, o, none⟩ v).heap[k]? = w.heap[k]? := Below.heap_setCell w _ v k hk
theorem Touch.set {base : Nat} {ts : List Nat} {a b : World} (h : Touch base ts a b) {g : Nat} {cur : Array Value} {t : TypeId} (hg : b.heap[g]? = some (.cells cur t (0, 0))) (hb : base ≤ g) (ht : t ∈ ts) (o : Nat) (v : Value) : Touch base ts a (b.setCell ⟨g, o, none⟩ v) := by
  refine h.trans ⟨rfl, rfl, rfl, by simp [World.setCell], fun k hk => heap_other b g o v k (by omega), fun k q u fz hq hu => heap_other b g o v k ?_, fun k q u fz hq => ?_⟩
  · rintro rfl
    rw [hg] at hq
    injection hq with hq
    injection hq with _ hq
    exact hu (hq ▸ ht)
  · by_cases c : k = g
    · subst c
      rw [hg] at hq
      injection hq with hq
      injection hq with q1 q2 q3
      subst q1 q2 q3
      exact ⟨_, heap_set hg o v, by simp⟩
    · exact ⟨q, (heap_other b g o v k c).trans hq, rfl⟩
theorem cell_at {w : World} {g : Nat} {cur : Array Value} {t : TypeId} (hg : w.heap[g]? = some (.cells cur t (0, 0))) (o : Nat) : w.cell? ⟨g, o, none⟩ = cur[o]? := by
  simp [World.cell?, hg]
theorem free_at {w : World} {g : Nat} {cur : Array Value} {t : TypeId} (hg : w.heap[g]? = some (.cells cur t (0, 0))) (o : Nat) : w.frozen? ⟨g, o, none⟩ = false := by
  simp [World.frozen?, hg]
set_option maxHeartbeats 2000000 in
set_option maxRecDepth 100000 in
theorem markByteS_touch (base h m cap : Nat) (k0 : Int) (w : World) (c : Array Value) (hc : w.heap[h]? = some (.cells c 5 (0, 0))) (hm : m ≤ c.size) (hb : base ≤ h) (hk0 : 0 ≤ k0) (hk1 : k0 + m ≤ 1152921504606846976) (hm2 : m ≤ 1152921504606846976) :
    Calls Try.prog 28 #[.slice (some ⟨h, 0, none⟩) m cap, .int .i64 k0] w fun e w' => e = .returned (.int .i64 (k0 + m)) ∧ Touch base [5] w w' := by
  go_enter Try.func28, Try.ntmps28
  go_wp2
  go_loopg [1, 5] m (fun gk v1 v5 wr => ∃ i : Nat, i ≤ m ∧ gk = m - i ∧ v5 = .int .i64 (i : Int) ∧ v1 = .int .i64 (k0 + i) ∧ Aside (Touch base [5] w wr))
  case atStart => exact ⟨0, by omega, by omega, rfl, by simp, Touch.refl _ _ _⟩
  case round =>
    obtain ⟨i, hi, rfl, rfl, rfl, HT⟩ := hrel
    obtain ⟨cur, hg, hs⟩ := HT.out.alike _ _ _ _ hc
    by_cases hlt : (i : Int) < (m : Int)
    · have hx : ∃ x, cur[i]? = some x := ⟨_, Array.getElem?_eq_getElem (show i < cur.size by omega)⟩
      obtain ⟨x, hx⟩ := hx
      have hcell := (cell_at hg i).trans hx
      have hfree := free_at hg i
      have p0 : (0 : Int) ≤ (i : Int) := by omega
      have w1 : wrap64 ((i : Int) + 1) = (i : Int) + 1 := Base.w64 (by omega) (by omega)
      have w2 : wrap64 (k0 + (i : Int) + 1) = k0 + (i : Int) + 1 := Base.w64 (by omega) (by omega)
      go_wp2
      go_roundg (m - (i + 1))
      case measure => omega
      case rel => exact ⟨i + 1, by omega, rfl, by go_num, by go_num, (by first | exact HT.out.set hg hb (by simp) _ _ | exact (HT.out.set hg hb (by simp) _ _).drew | exact HT.out.drew.set hg hb (by simp) _ _)⟩
    · obtain rfl : i = m := by omega
      go_wp2
      go_ret
      exact ⟨rfl, HT.out⟩
/-- The bodies' lengths and what they are. -/
structure BodyOk (base : Nat) (w : World) (v : Value) (m : Nat) : Prop where
  out : (m = 0 ∧ v = .slice none 0 0) ∨ ∃ (h cap : Nat) (c : Array Value), v = .slice (some ⟨h, 0, none⟩) m cap ∧ base ≤ h ∧ w.heap[h]? = some (.cells c 5 (0, 0)) ∧ m ≤ c.size
theorem BodyOk.on {base : Nat} {ts : List Nat} {w W : World} {v : Value} {m : Nat} (h : BodyOk base w v m) (hT : Touch base ts w W) : BodyOk base W v m := by
  rcases h.out with h | ⟨b, cap, c, rfl, hb, hc, hm⟩
  · exact ⟨.inl h⟩
  · obtain ⟨c', h1, h2⟩ := hT.alike _ _ _ _ hc
    exact ⟨.inr ⟨b, cap, c', rfl, hb, h1, by omega⟩⟩
set_option maxHeartbeats 2000000 in
set_option maxRecDepth 100000 in
theorem markNil (base : Nat) (k0 : Int) (w : World) (hk0 : 0 ≤ k0) : Calls Try.prog 28 #[.slice none 0 0, .int .i64 k0] w fun e w' => e = .returned (.int .i64 k0) ∧ Touch base [5] w w' := by
  go_enter Try.func28, Try.ntmps28
  go_wp2
  go_loopg [1, 5] 0 (fun gk v1 v5 wr => v5 = .int .i64 0 ∧ v1 = .int .i64 k0 ∧ wr = w)
  case atStart => exact ⟨rfl, rfl, rfl⟩
  case round =>
    obtain ⟨rfl, rfl, rfl⟩ := hrel
    go_wp2
    go_ret
    exact ⟨rfl, Touch.refl _ _ _⟩
theorem mark_body (base : Nat) (v : Value) (m : Nat) (k0 : Int) (w : World) (hv : BodyOk base w v m) (hk0 : 0 ≤ k0) (hk1 : k0 + m ≤ 1152921504606846976) :
    Calls Try.prog 28 #[v, .int .i64 k0] w fun e w' => e = .returned (.int .i64 (k0 + m)) ∧ Touch base [5] w w' := by
  rcases hv.out with ⟨rfl, rfl⟩ | ⟨h, cap, c, rfl, hb, hc, hm⟩
  · have := markNil base k0 w hk0
    simpa using this
  · exact markByteS_touch base h m cap k0 w c hc hm hb hk0 hk1 (by omega)
def tot (ms : List Nat) : Nat → Nat
  | 0 => 0
  | i + 1 => tot ms i + (ms.getD i 0 + 2)
theorem tot_le (ms : List Nat) : ∀ (i j : Nat), i ≤ j → tot ms i ≤ tot ms j
  | i, 0, h => by
    obtain rfl : i = 0 := by omega
    exact Nat.le_refl _
  | i, j + 1, h => by
    by_cases c : i = j + 1
    · subst c
      exact Nat.le_refl _
    · have := tot_le ms i j (by omega)
      simp only [tot]
      omega
set_option maxHeartbeats 4000000 in
set_option maxRecDepth 100000 in
theorem markItemS_touch (base g n cap : Nat) (ms : List Nat) (bv : Nat → Value) (k0 : Int) (w : World) (cur0 : Array Value) (hg0 : w.heap[g]? = some (.cells cur0 52 (0, 0))) (hs0 : cur0.size = cap * 3) (hn : n ≤ cap) (hcap : n ≤ 1152921504606846976) (hb : base ≤ g)
    (hbv : ∀ j, j < n → cur0[j * 3 + 1]? = some (bv j)) (hok : ∀ j, j < n → BodyOk base w (bv j) (ms.getD j 0)) (hk0 : 0 ≤ k0) (hk1 : k0 + tot ms n ≤ 1152921504606846976) :
    Calls Try.prog 18 #[.slice (some ⟨g, 0, none⟩) n cap, .int .i64 k0] w fun e w' => e = .returned (.int .i64 (k0 + tot ms n)) ∧ Touch base [52, 5] w w' := by
  go_enter Try.func18, Try.ntmps18
  go_wp2
  go_loopg [1, 5] n (fun gk v1 v5 wr => ∃ i : Nat, i ≤ n ∧ gk = n - i ∧ v5 = .int .i64 (i : Int) ∧ v1 = .int .i64 (k0 + tot ms i) ∧ Aside (Touch base [52, 5] w wr ∧ ∃ cur : Array Value, wr.heap[g]? = some (.cells cur 52 (0, 0)) ∧ cur.size = cap * 3 ∧ ∀ j, j < n → cur[j * 3 + 1]? = some (bv j)))
  case atStart => exact ⟨0, by omega, by omega, rfl, by simp [tot], Touch.refl _ _ _, cur0, hg0, hs0, hbv⟩
  case round =>
    obtain ⟨i, hi, rfl, rfl, rfl, HT⟩ := hrel
    obtain ⟨HT1, cur, hg, hs, hbc⟩ := HT.out
    by_cases hlt : (i : Int) < (n : Int)
    · have hx0 : ∃ x, cur[i * 3]? = some x := ⟨_, Array.getElem?_eq_getElem (show i * 3 < cur.size by omega)⟩
      obtain ⟨x0, hx0⟩ := hx0
      have hx2 : ∃ x, cur[i * 3 + 2]? = some x := ⟨_, Array.getElem?_eq_getElem (show i * 3 + 2 < cur.size by omega)⟩
      obtain ⟨x2, hx2⟩ := hx2
      have hx1 := hbc i (by omega)
      have ht := tot_le ms (i + 1) n (by omega)
      have ht1 : tot ms (i + 1) = tot ms i + (ms.getD i 0 + 2) := rfl
      have hbo := hok i (by omega)
      obtain ⟨mi, hmi⟩ : ∃ mi, ms.getD i 0 = mi := ⟨_, rfl⟩
      obtain ⟨T, hT⟩ : ∃ T, tot ms i = T := ⟨_, rfl⟩
      obtain ⟨T1, hT1⟩ : ∃ T1, tot ms (i + 1) = T1 := ⟨_, rfl⟩
      rw [hmi] at hbo
      rw [hmi, hT, hT1] at ht1
      rw [hT1] at ht
      rw [hT]
      have c0 := (cell_at hg (i * 3)).trans hx0
      have f0 := free_at hg (i * 3)
      have p0 : (0 : Int) ≤ (i : Int) := by omega
      have HTa := HT1.set hg hb (by simp : (52 : Nat) ∈ [52, 5]) (i * 3) (.int .i64 (k0 + (T : Int)))
      have hg1 := heap_set hg (i * 3) (.int .i64 (k0 + (T : Int)))
      have e1 : (cur.setIfInBounds (i * 3) (.int .i64 (k0 + (T : Int))))[i * 3 + 1]? = some (bv i) := by
        rw [Array.getElem?_setIfInBounds_ne (by omega)]
        exact hx1
      have e2 : (cur.setIfInBounds (i * 3) (.int .i64 (k0 + (T : Int))))[i * 3 + 2]? = some x2 := by
        rw [Array.getElem?_setIfInBounds_ne (by omega)]
        exact hx2
      have c1 := (cell_at hg1 (i * 3 + 1)).trans e1
      have hbody := mark_body base (bv i) mi (k0 + (T : Int) + 1) _ (hbo.on HTa) (by omega) (by omega)
      have HA : Aside (Touch base [52, 5] w (wr.setCell ⟨g, i * 3, none⟩ (.int .i64 (k0 + (T : Int))))) := HTa
      have HG : Aside ((wr.setCell ⟨g, i * 3, none⟩ (.int .i64 (k0 + (T : Int)))).heap[g]? = some (.cells (cur.setIfInBounds (i * 3) (.int .i64 (k0 + (T : Int)))) 52 (0, 0))) := hg1
      have HE : Aside ((cur.setIfInBounds (i * 3) (.int .i64 (k0 + (T : Int))))[i * 3 + 2]? = some x2) := e2
      have HN : Aside (∀ j, j < n → BodyOk base w (bv j) (ms.getD j 0)) := hok
      have HV : Aside (∀ j, j < n → cur[j * 3 + 1]? = some (bv j)) := hbc
      have HS : Aside (cur.size = cap * 3) := hs
      clear HTa hg1 e1 e2 hok hbc hbv hg0 hs0 hg hx0 hx1 hx2 HT HT1
      go_wp2_with (go_at_call 28; refine hbody.mono ?_; rintro e W2 ⟨rfl, HT2⟩; have hg2 := (HT2.typed _ _ _ _ HG.out (by decide)).trans HG.out; have c2 := (cell_at hg2 (i * 3 + 2)).trans HE.out; have f2 := free_at hg2 (i * 3 + 2); have HT2' : Aside (Touch base [5] _ W2) := HT2; have HG2 : Aside (W2.heap[g]? = _) := hg2; clear HT2 hg2)
      clear c0 c1 c2 f0 f2
      go_roundg (n - (i + 1))
      case measure => omega
      case rel =>
        refine ⟨i + 1, by omega, rfl, by rw [Int.natCast_add]; rfl, by rw [hT1]; exact congrArg (Value.int .i64) (by omega), ?_, ?_⟩
        · exact (HA.out.trans (HT2'.out.more (by simp))).set HG2.out hb (by simp) _ _
        · exact ⟨_, heap_set HG2.out (i * 3 + 2) _, by simp [HS.out], fun j hj => by
            rw [Array.getElem?_setIfInBounds_ne (by omega), Array.getElem?_setIfInBounds_ne (by omega)]
            exact HV.out j hj⟩
    · obtain rfl : i = n := by omega
      go_wp2
      go_ret
      exact ⟨rfl, HT1⟩
set_option maxHeartbeats 2000000 in
set_option maxRecDepth 100000 in
theorem markItemsNil (base : Nat) (k0 : Int) (w : World) : Calls Try.prog 18 #[.slice none 0 0, .int .i64 k0] w fun e w' => e = .returned (.int .i64 k0) ∧ Touch base [52, 5] w w' := by
  go_enter Try.func18, Try.ntmps18
  go_wp2
  go_loopg [1, 5] 0 (fun gk v1 v5 wr => v5 = .int .i64 0 ∧ v1 = .int .i64 k0 ∧ wr = w)
  case atStart => exact ⟨rfl, rfl, rfl⟩
  case round =>
    obtain ⟨rfl, rfl, rfl⟩ := hrel
    go_wp2
    go_ret
    exact ⟨rfl, Touch.refl _ _ _⟩
def lens (l0 : List S52) : List Nat := l0.map (fun x => x.f1.length)
def laws_markItemS.f (l0 : List S52) (a1 : Int) : Option Int := if a1 = 1 then (if l0.length ≤ 1048576 then (if tot (lens l0) l0.length ≤ 1000000000000000 then some (1 + ((tot (lens l0) l0.length : Nat) : Int)) else none) else none) else none
theorem laws_markItemS.calls (A0 : Option Addr) (c0 : Nat) (l0 : List S52) (a1 r : Int) (w : World) (base : Nat) (ok : Nat → Prop) (hS : Kd.S k52 52 w base ok (.slice A0 l0.length c0) l0) (h : laws_markItemS.f l0 a1 = some r) :
    Calls Try.prog 18 #[.slice A0 l0.length c0, .int .i64 a1] w fun e w' => e = .returned (.int .i64 r) ∧ Touch base [52, 5] w w' := by
  unfold laws_markItemS.f at h
  by_cases d0 : a1 = 1
  · rw [if_pos d0] at h
    by_cases d1 : l0.length ≤ 1048576
    · rw [if_pos d1] at h
      by_cases d2 : tot (lens l0) l0.length ≤ 1000000000000000
      · rw [if_pos d2] at h
        obtain rfl := Option.some.inj h
        subst d0
        obtain ⟨_, inner, ho, hr⟩ := Kd.S_R hS
        rcases ho.2 with ⟨hv, h0⟩ | ⟨g, cap, cur, hv, hb, hg, hn, hcm, hcs, ht⟩
        · injection hv with q1 q2 q3
          subst q1 q3
          have e0 : tot (lens l0) l0.length = 0 := by rw [h0]; rfl
          rw [h0] at e0 ⊢
          rw [e0]
          exact markItemsNil base 1 w
        · injection hv with q1 q2 q3
          subst q1 q3
          have hin : ∀ j p, l0[j]? = some p → ∃ (v1 : Value) (ok1 : Nat → Prop), cur[j * 3 + 1]? = some v1 ∧ (Kd.int .u8).R 5 w base ok1 v1 p.f1 := by
            intro j p hp
            obtain ⟨v1, e, hR⟩ := k52_openM (hr.2 j p hp)
            refine ⟨v1, _, ?_, hR⟩
            have hj : j < l0.length := (List.getElem?_eq_some_iff.1 hp).1
            have e1 := congrArg (fun l => l[1]?) e
            simp only [List.getElem?_take, List.getElem?_drop] at e1
            rw [← ht] at e1
            have e2 : (cur.toList)[j * 3 + 1]? = some v1 := by
              have e3 : (if 1 < k52.sz then (List.take (l0.length * k52.sz) cur.toList)[j * k52.sz + 1]? else none) = some v1 := by simpa using e1
              rw [if_pos (by decide), List.getElem?_take, show k52.sz = 3 from rfl, if_pos (by omega)] at e3
              exact e3
            simpa using e2
          refine markItemS_touch base g l0.length c0 (lens l0) (fun j => (cur[j * 3 + 1]?).getD undef) 1 w cur hg hcs hn (by omega) hb ?_ ?_ (by omega) (by omega)
          · intro j hj
            obtain ⟨v1, _, e, _⟩ := hin j _ (List.getElem?_eq_getElem hj)
            rw [e]
            rfl
          · intro j hj
            obtain ⟨v1, _, e, hR⟩ := hin j _ (List.getElem?_eq_getElem hj)
            have em : (lens l0).getD j 0 = (l0[j]).f1.length := by
              unfold lens
              simp [List.getD_eq_getElem?_getD, hj]
            show BodyOk base w ((cur[j * 3 + 1]?).getD undef) ((lens l0).getD j 0)
            rw [e, em]
            obtain ⟨_, inner1, ho1, _⟩ := hR
            rcases ho1.2 with ⟨hv1, h1⟩ | ⟨g1, cap1, cur1, hv1, hb1, hg1, hn1, _, hs1, _⟩
            · exact ⟨.inl ⟨h1, hv1⟩⟩
            · exact ⟨.inr ⟨g1, cap1, cur1, hv1, hb1, hg1, by rw [hs1]; show _ ≤ cap1 * 1; omega⟩⟩
      · rw [if_neg d2] at h
        cases h
    · rw [if_neg d1] at h
      cases h
  · rw [if_neg d0] at h
    cases h
theorem R_touch {w W : World} {base : Nat} {ok : Nat → Prop} {v : Value} {xs : List Int} (h : (Kd.int .i64).R 3 w base ok v xs) (hT : Touch base [52, 5] w W) : (Kd.int .i64).R 3 W base ok v xs :=
  Kd.R_mono (Kd.R_move (Kd.R_bound h) (fun k hk => by
    obtain ⟨_, _, _, q, hq, cells, hc⟩ := hk
    have hq : q ∈ [3] := hq
    obtain rfl := List.mem_singleton.1 hq
    exact hT.typed k cells 3 _ hc (by decide))) (fun _ hk => hk.1)
theorem below_touch {w0 w W : World} (hb : Below w0.heap.size w0 w) (hT : Touch w0.heap.size [52, 5] w W) : Below w0.heap.size w0 W :=
  ⟨hT.os.trans hb.os, hT.tape.trans hb.tape, hT.output.trans hb.output, by rw [hT.size]; exact hb.size, fun k hk => (hT.low k hk).trans (hb.block k hk)⟩
end Go.Proofs.Ytmeobalddjembaa.GFnExactChildren.Hand
