import Derived.Test.YtmeobalddjembaaGFnStrictNode
namespace Go.Proofs.Ytmeobalddjembaa.GFnStrict.Hand
open Go.RowKit Go.Proofs.YtmeobalddjembaaW.PrintWords Go.Proofs.YtmeobalddjembaaW.PrintLast Go.Proofs.YtmeobalddjembaaW.PrintMore
set_option linter.unusedVariables false
set_option linter.unusedSimpArgs false
/-! ### laws.markItemS and laws.markByteS on rows of the call's own, told by what they touch alone -/
/-- Blocks of S, of items (type 52) and of bytes (type 5), may be written; the rest is as it was. -/
structure Touch (S : Nat → Prop) (ts : List Nat) (w W : World) : Prop where
  os : W.os = w.os
  tape : W.tape = w.tape
  output : W.output = w.output
  size : W.heap.size = w.heap.size
  low : ∀ k, ¬ S k → W.heap[k]? = w.heap[k]?
  typed : ∀ (k : Nat) (c : Array Value) (t : TypeId) (fz : Nat × Nat), w.heap[k]? = some (Obj.cells c t fz) → t ∉ ts → W.heap[k]? = w.heap[k]?
  alike : ∀ (k : Nat) (c : Array Value) (t : TypeId) (fz : Nat × Nat), w.heap[k]? = some (Obj.cells c t fz) → ∃ c' : Array Value, W.heap[k]? = some (Obj.cells c' t fz) ∧ c'.size = c.size
theorem Touch.refl (S : Nat → Prop) (ts : List Nat) (w : World) : Touch S ts w w := ⟨rfl, rfl, rfl, rfl, fun _ _ => rfl, fun _ _ _ _ _ _ => rfl, fun _ c _ _ h => ⟨c, h, rfl⟩⟩
theorem Touch.trans {S : Nat → Prop} {ts : List Nat} {a b c : World} (h : Touch S ts a b) (h' : Touch S ts b c) : Touch S ts a c :=
  ⟨h'.os.trans h.os, h'.tape.trans h.tape, h'.output.trans h.output, h'.size.trans h.size, fun k hk => (h'.low k hk).trans (h.low k hk),
    fun k q t fz hq ht => by
      have e := h.typed k q t fz hq ht
      exact (h'.typed k q t fz (e.trans hq) ht).trans e,
    fun k q t fz hq => by
      obtain ⟨q1, e1, s1⟩ := h.alike k q t fz hq
      obtain ⟨q2, e2, s2⟩ := h'.alike k q1 t fz e1
      exact ⟨q2, e2, s2.trans s1⟩⟩
theorem Touch.more {S : Nat → Prop} {ts us : List Nat} {a b : World} (h : Touch S ts a b) (hs : ∀ t, t ∈ ts → t ∈ us) : Touch S us a b :=
  ⟨h.os, h.tape, h.output, h.size, h.low, fun k q t fz hq ht => h.typed k q t fz hq (fun x => ht (hs t x)), h.alike⟩
theorem Touch.drew {S : Nat → Prop} {ts : List Nat} {a b : World} (h : Touch S ts a b) : Touch S ts a b.drew := ⟨h.os, h.tape, h.output, h.size, h.low, h.typed, h.alike⟩
theorem Touch.set {S : Nat → Prop} {ts : List Nat} {a b : World} (h : Touch S ts a b) {g : Nat} {cur : Array Value} {t : TypeId} (hg : b.heap[g]? = some (.cells cur t (0, 0))) (hb : S g) (ht : t ∈ ts) (o : Nat) (v : Value) : Touch S ts a (b.setCell ⟨g, o, none⟩ v) := by
  refine h.trans ⟨rfl, rfl, rfl, by simp [World.setCell], fun k hk => heap_other b g o v k (fun e => hk (e ▸ hb)), fun k q u fz hq hu => heap_other b g o v k ?_, fun k q u fz hq => ?_⟩
  · rintro rfl
    rw [hg] at hq
    injection hq with hq
    injection hq with _ hq
    exact hu (hq ▸ ht)
  · by_cases c : k = g
    · subst c
      rw [hg] at hq
      injection hq with hq
      injection hq with q1 q2 q3
      subst q1 q2 q3
      exact ⟨_, heap_set hg o v, by simp⟩
    · exact ⟨q, (heap_other b g o v k c).trans hq, rfl⟩
set_option maxHeartbeats 2000000 in
set_option maxRecDepth 100000 in
theorem markByteS_touch (S : Nat → Prop) (h m cap : Nat) (k0 : Int) (w : World) (c : Array Value) (hc : w.heap[h]? = some (.cells c 5 (0, 0))) (hm : m ≤ c.size) (hb : S h) (hk0 : 0 ≤ k0) (hk1 : k0 + m ≤ 1152921504606846976) (hm2 : m ≤ 1152921504606846976) :
    Calls Try.prog 28 #[.slice (some ⟨h, 0, none⟩) m cap, .int .i64 k0] w fun e w' => e = .returned (.int .i64 (k0 + m)) ∧ Touch S [5] w w' := by
  go_enter Try.func28, Try.ntmps28
  go_wp2
  go_loopg [1, 5] m (fun gk v1 v5 wr => ∃ i : Nat, i ≤ m ∧ gk = m - i ∧ v5 = .int .i64 (i : Int) ∧ v1 = .int .i64 (k0 + i) ∧ Aside (Touch S [5] w wr))
  case atStart => exact ⟨0, by omega, by omega, rfl, by simp, Touch.refl _ _ _⟩
  case round =>
    obtain ⟨i, hi, rfl, rfl, rfl, HT⟩ := hrel
    obtain ⟨cur, hg, hs⟩ := HT.out.alike _ _ _ _ hc
    by_cases hlt : (i : Int) < (m : Int)
    · have hx : ∃ x, cur[i]? = some x := ⟨_, Array.getElem?_eq_getElem (show i < cur.size by omega)⟩
      obtain ⟨x, hx⟩ := hx
      have hcell := (cell_at hg i).trans hx
      have hfree := free_at hg i
      have p0 : (0 : Int) ≤ (i : Int) := by omega
      have w1 : wrap64 ((i : Int) + 1) = (i : Int) + 1 := Base.w64 (by omega) (by omega)
      have w2 : wrap64 (k0 + (i : Int) + 1) = k0 + (i : Int) + 1 := Base.w64 (by omega) (by omega)
      go_wp2
      go_roundg (m - (i + 1))
      case measure => omega
      case rel => exact ⟨i + 1, by omega, rfl, by go_num, by go_num, (by first | exact HT.out.set hg hb (by simp) _ _ | exact (HT.out.set hg hb (by simp) _ _).drew | exact HT.out.drew.set hg hb (by simp) _ _)⟩
    · obtain rfl : i = m := by omega
      go_wp2
      go_ret
      exact ⟨rfl, HT.out⟩
/-- The bodies' lengths and what they are. -/
structure BodyOk (S : Nat → Prop) (w : World) (v : Value) (m : Nat) : Prop where
  out : (m = 0 ∧ v = .slice none 0 0) ∨ ∃ (h cap : Nat) (c : Array Value), v = .slice (some ⟨h, 0, none⟩) m cap ∧ S h ∧ w.heap[h]? = some (.cells c 5 (0, 0)) ∧ m ≤ c.size
theorem BodyOk.on {S : Nat → Prop} {ts : List Nat} {w W : World} {v : Value} {m : Nat} (h : BodyOk S w v m) (hT : Touch S ts w W) : BodyOk S W v m := by
  rcases h.out with h | ⟨b, cap, c, rfl, hb, hc, hm⟩
  · exact ⟨.inl h⟩
  · obtain ⟨c', h1, h2⟩ := hT.alike _ _ _ _ hc
    exact ⟨.inr ⟨b, cap, c', rfl, hb, h1, by omega⟩⟩
set_option maxHeartbeats 2000000 in
set_option maxRecDepth 100000 in
theorem markNil (S : Nat → Prop) (k0 : Int) (w : World) (hk0 : 0 ≤ k0) : Calls Try.prog 28 #[.slice none 0 0, .int .i64 k0] w fun e w' => e = .returned (.int .i64 k0) ∧ Touch S [5] w w' := by
  go_enter Try.func28, Try.ntmps28
  go_wp2
  go_loopg [1, 5] 0 (fun gk v1 v5 wr => v5 = .int .i64 0 ∧ v1 = .int .i64 k0 ∧ wr = w)
  case atStart => exact ⟨rfl, rfl, rfl⟩
  case round =>
    obtain ⟨rfl, rfl, rfl⟩ := hrel
    go_wp2
    go_ret
    exact ⟨rfl, Touch.refl _ _ _⟩
theorem mark_body (S : Nat → Prop) (v : Value) (m : Nat) (k0 : Int) (w : World) (hv : BodyOk S w v m) (hk0 : 0 ≤ k0) (hk1 : k0 + m ≤ 1152921504606846976) :
    Calls Try.prog 28 #[v, .int .i64 k0] w fun e w' => e = .returned (.int .i64 (k0 + m)) ∧ Touch S [5] w w' := by
  rcases hv.out with ⟨rfl, rfl⟩ | ⟨h, cap, c, rfl, hb, hc, hm⟩
  · have := markNil S k0 w hk0
    simpa using this
  · exact markByteS_touch S h m cap k0 w c hc hm hb hk0 hk1 (by omega)
def tot (ms : List Nat) : Nat → Nat
  | 0 => 0
  | i + 1 => tot ms i + (ms.getD i 0 + 2)
theorem tot_le (ms : List Nat) : ∀ (i j : Nat), i ≤ j → tot ms i ≤ tot ms j
  | i, 0, h => by
    obtain rfl : i = 0 := by omega
    exact Nat.le_refl _
  | i, j + 1, h => by
    by_cases c : i = j + 1
    · subst c
      exact Nat.le_refl _
    · have := tot_le ms i j (by omega)
      simp only [tot]
      omega
set_option maxHeartbeats 4000000 in
set_option maxRecDepth 100000 in
theorem markItemS_touch (S : Nat → Prop) (g n cap : Nat) (ms : List Nat) (bv : Nat → Value) (k0 : Int) (w : World) (cur0 : Array Value) (hg0 : w.heap[g]? = some (.cells cur0 52 (0, 0))) (hs0 : cur0.size = cap * 3) (hn : n ≤ cap) (hcap : n ≤ 1152921504606846976) (hb : S g)
    (hbv : ∀ j, j < n → cur0[j * 3 + 1]? = some (bv j)) (hok : ∀ j, j < n → BodyOk S w (bv j) (ms.getD j 0)) (hk0 : 0 ≤ k0) (hk1 : k0 + tot ms n ≤ 1152921504606846976) :
    Calls Try.prog 18 #[.slice (some ⟨g, 0, none⟩) n cap, .int .i64 k0] w fun e w' => e = .returned (.int .i64 (k0 + tot ms n)) ∧ Touch S [52, 5] w w' := by
  go_enter Try.func18, Try.ntmps18
  go_wp2
  go_loopg [1, 5] n (fun gk v1 v5 wr => ∃ i : Nat, i ≤ n ∧ gk = n - i ∧ v5 = .int .i64 (i : Int) ∧ v1 = .int .i64 (k0 + tot ms i) ∧ Aside (Touch S [52, 5] w wr ∧ ∃ cur : Array Value, wr.heap[g]? = some (.cells cur 52 (0, 0)) ∧ cur.size = cap * 3 ∧ ∀ j, j < n → cur[j * 3 + 1]? = some (bv j)))
  case atStart => exact ⟨0, by omega, by omega, rfl, by simp [tot], Touch.refl _ _ _, cur0, hg0, hs0, hbv⟩
  case round =>
    obtain ⟨i, hi, rfl, rfl, rfl, HT⟩ := hrel
    obtain ⟨HT1, cur, hg, hs, hbc⟩ := HT.out
    by_cases hlt : (i : Int) < (n : Int)
    · have hx0 : ∃ x, cur[i * 3]? = some x := ⟨_, Array.getElem?_eq_getElem (show i * 3 < cur.size by omega)⟩
      obtain ⟨x0, hx0⟩ := hx0
      have hx2 : ∃ x, cur[i * 3 + 2]? = some x := ⟨_, Array.getElem?_eq_getElem (show i * 3 + 2 < cur.size by omega)⟩
      obtain ⟨x2, hx2⟩ := hx2
      have hx1 := hbc i (by omega)
      have ht := tot_le ms (i + 1) n (by omega)
      have ht1 : tot ms (i + 1) = tot ms i + (ms.getD i 0 + 2) := rfl
      have hbo := hok i (by omega)
      obtain ⟨mi, hmi⟩ : ∃ mi, ms.getD i 0 = mi := ⟨_, rfl⟩
      obtain ⟨T, hT⟩ : ∃ T, tot ms i = T := ⟨_, rfl⟩
      obtain ⟨T1, hT1⟩ : ∃ T1, tot ms (i + 1) = T1 := ⟨_, rfl⟩
      rw [hmi] at hbo
      rw [hmi, hT, hT1] at ht1
      rw [hT1] at ht
      rw [hT]
      have c0 := (cell_at hg (i * 3)).trans hx0
      have f0 := free_at hg (i * 3)
      have p0 : (0 : Int) ≤ (i : Int) := by omega
      have HTa := HT1.set hg hb (by simp : (52 : Nat) ∈ [52, 5]) (i * 3) (.int .i64 (k0 + (T : Int)))
      have hg1 := heap_set hg (i * 3) (.int .i64 (k0 + (T : Int)))
      have e1 : (cur.setIfInBounds (i * 3) (.int .i64 (k0 + (T : Int))))[i * 3 + 1]? = some (bv i) := by
        rw [Array.getElem?_setIfInBounds_ne (by omega)]
        exact hx1
      have e2 : (cur.setIfInBounds (i * 3) (.int .i64 (k0 + (T : Int))))[i * 3 + 2]? = some x2 := by
        rw [Array.getElem?_setIfInBounds_ne (by omega)]
        exact hx2
      have c1 := (cell_at hg1 (i * 3 + 1)).trans e1
      have hbody := mark_body S (bv i) mi (k0 + (T : Int) + 1) _ (hbo.on HTa) (by omega) (by omega)
      have HA : Aside (Touch S [52, 5] w (wr.setCell ⟨g, i * 3, none⟩ (.int .i64 (k0 + (T : Int))))) := HTa
      have HG : Aside ((wr.setCell ⟨g, i * 3, none⟩ (.int .i64 (k0 + (T : Int)))).heap[g]? = some (.cells (cur.setIfInBounds (i * 3) (.int .i64 (k0 + (T : Int)))) 52 (0, 0))) := hg1
      have HE : Aside ((cur.setIfInBounds (i * 3) (.int .i64 (k0 + (T : Int))))[i * 3 + 2]? = some x2) := e2
      have HN : Aside (∀ j, j < n → BodyOk S w (bv j) (ms.getD j 0)) := hok
      have HV : Aside (∀ j, j < n → cur[j * 3 + 1]? = some (bv j)) := hbc
      have HS : Aside (cur.size = cap * 3) := hs
      clear HTa hg1 e1 e2 hok hbc hbv hg0 hs0 hg hx0 hx1 hx2 HT HT1
      go_wp2_with (go_at_call 28; refine hbody.mono ?_; rintro e W2 ⟨rfl, HT2⟩; have hg2 := (HT2.typed _ _ _ _ HG.out (by decide)).trans HG.out; have c2 := (cell_at hg2 (i * 3 + 2)).trans HE.out; have f2 := free_at hg2 (i * 3 + 2); have HT2' : Aside (Touch S [5] _ W2) := HT2; have HG2 : Aside (W2.heap[g]? = _) := hg2; clear HT2 hg2)
      clear c0 c1 c2 f0 f2
      go_roundg (n - (i + 1))
      case measure => omega
      case rel =>
        refine ⟨i + 1, by omega, rfl, by rw [Int.natCast_add]; rfl, by rw [hT1]; exact congrArg (Value.int .i64) (by omega), ?_, ?_⟩
        · exact (HA.out.trans (HT2'.out.more (by simp))).set HG2.out hb (by simp) _ _
        · exact ⟨_, heap_set HG2.out (i * 3 + 2) _, by simp [HS.out], fun j hj => by
            rw [Array.getElem?_setIfInBounds_ne (by omega), Array.getElem?_setIfInBounds_ne (by omega)]
            exact HV.out j hj⟩
    · obtain rfl : i = n := by omega
      go_wp2
      go_ret
      exact ⟨rfl, HT1⟩
set_option maxHeartbeats 2000000 in
set_option maxRecDepth 100000 in
theorem markItemsNil (S : Nat → Prop) (k0 : Int) (w : World) : Calls Try.prog 18 #[.slice none 0 0, .int .i64 k0] w fun e w' => e = .returned (.int .i64 k0) ∧ Touch S [52, 5] w w' := by
  go_enter Try.func18, Try.ntmps18
  go_wp2
  go_loopg [1, 5] 0 (fun gk v1 v5 wr => v5 = .int .i64 0 ∧ v1 = .int .i64 k0 ∧ wr = w)
  case atStart => exact ⟨rfl, rfl, rfl⟩
  case round =>
    obtain ⟨rfl, rfl, rfl⟩ := hrel
    go_wp2
    go_ret
    exact ⟨rfl, Touch.refl _ _ _⟩
/-! ### the same, told whole: rows of distinct blocks -/
/-- Only blocks of S are written. -/
structure Only (S : Nat → Prop) (w W : World) : Prop where
  os : W.os = w.os
  tape : W.tape = w.tape
  output : W.output = w.output
  size : W.heap.size = w.heap.size
  far : ∀ k, ¬ S k → W.heap[k]? = w.heap[k]?
theorem Only.refl (S : Nat → Prop) (w : World) : Only S w w := ⟨rfl, rfl, rfl, rfl, fun _ _ => rfl⟩
theorem Only.trans {S : Nat → Prop} {a b c : World} (h : Only S a b) (h' : Only S b c) : Only S a c := ⟨h'.os.trans h.os, h'.tape.trans h.tape, h'.output.trans h.output, h'.size.trans h.size, fun k hk => (h'.far k hk).trans (h.far k hk)⟩
theorem Only.more {S S' : Nat → Prop} {a b : World} (h : Only S a b) (hs : ∀ k, S k → S' k) : Only S' a b := ⟨h.os, h.tape, h.output, h.size, fun k hk => h.far k (fun e => hk (hs k e))⟩
theorem Only.set {S : Nat → Prop} {a b : World} (h : Only S a b) {g : Nat} (hg : S g) (o : Nat) (v : Value) : Only S a (b.setCell ⟨g, o, none⟩ v) :=
  h.trans ⟨rfl, rfl, rfl, by simp [World.setCell], fun k hk => heap_other b g o v k (fun e => hk (e ▸ hg))⟩
def marks (m : Int) (n : Nat) : List Int := (List.range n).map (fun (j : Nat) => (m + (j : Int)) % 256)
theorem marks_length (m : Int) (n : Nat) : (marks m n).length = n := by simp [marks]
theorem marks_at (m : Int) (n j : Nat) (h : j < n) : (marks m n)[j]? = some ((m + (j : Int)) % 256) := by
  unfold marks
  simp [h]
set_option maxHeartbeats 2000000 in
set_option maxRecDepth 100000 in
theorem markByteS_full (h m cap : Nat) (k0 : Int) (w : World) (c : Array Value) (hc : w.heap[h]? = some (.cells c 5 (0, 0))) (hm : m ≤ c.size) (hk0 : 0 ≤ k0) (hk1 : k0 + m ≤ 1152921504606846976) (hm2 : m ≤ 1152921504606846976) :
    Calls Try.prog 28 #[.slice (some ⟨h, 0, none⟩) m cap, .int .i64 k0] w fun e w' => e = .returned (.int .i64 (k0 + m)) ∧ Only (fun k => k = h) w w' ∧ ∃ c' : Array Value, w'.heap[h]? = some (.cells c' 5 (0, 0)) ∧ c'.size = c.size ∧ ∀ j, j < m → c'[j]? = some (.int .u8 ((k0 + (j : Int)) % 256)) := by
  go_enter Try.func28, Try.ntmps28
  go_wp2
  go_loopg [1, 5] m (fun gk v1 v5 wr => ∃ i : Nat, i ≤ m ∧ gk = m - i ∧ v5 = .int .i64 (i : Int) ∧ v1 = .int .i64 (k0 + i) ∧ Aside (Only (fun k => k = h) w wr ∧ ∃ c' : Array Value, wr.heap[h]? = some (.cells c' 5 (0, 0)) ∧ c'.size = c.size ∧ ∀ j, j < i → c'[j]? = some (.int .u8 ((k0 + (j : Int)) % 256))))
  case atStart => exact ⟨0, by omega, by omega, rfl, by simp, Only.refl _ _, c, hc, rfl, fun j hj => by omega⟩
  case round =>
    obtain ⟨i, hi, rfl, rfl, rfl, HT⟩ := hrel
    obtain ⟨HT1, cur, hg, hs, hv⟩ := HT.out
    by_cases hlt : (i : Int) < (m : Int)
    · obtain ⟨x, hx⟩ : ∃ x, cur[i]? = some x := ⟨_, Array.getElem?_eq_getElem (show i < cur.size by omega)⟩
      have hcell := (cell_at hg i).trans hx
      have hfree := free_at hg i
      have p0 : (0 : Int) ≤ (i : Int) := by omega
      have w1 : wrap64 ((i : Int) + 1) = (i : Int) + 1 := Base.w64 (by omega) (by omega)
      have w2 : wrap64 (k0 + (i : Int) + 1) = k0 + (i : Int) + 1 := Base.w64 (by omega) (by omega)
      have HV := Aside0.mk hv
      have HG := Aside0.mk hg
      have HS := Aside0.mk hs
      have HX := Aside0.mk hx
      clear hv hg hs hx
      go_wp2
      go_roundg (m - (i + 1))
      case measure => omega
      case rel =>
        refine ⟨i + 1, by omega, rfl, by go_num, by go_num, HT1.set rfl _ _, _, heap_set HG.out i _, by rw [Array.size_setIfInBounds]; exact HS.out, ?_⟩
        intro j hj
        by_cases e : j = i
        · subst e
          have hsz : j < cur.size := (Array.getElem?_eq_some_iff.1 HX.out).1
          simp [Array.getElem?_setIfInBounds, hsz]
        · rw [Array.getElem?_setIfInBounds_ne (by omega)]
          exact HV.out j (by omega)
    · obtain rfl : i = m := by omega
      go_wp2
      go_ret
      exact ⟨rfl, HT1, cur, hg, hs, hv⟩
/-- A body that has been marked from k on. -/
def BodyM (w : World) (v : Value) (m : Nat) (k : Int) : Prop := m = 0 ∨ ∃ (h cap : Nat) (c : Array Value), v = .slice (some ⟨h, 0, none⟩) m cap ∧ w.heap[h]? = some (.cells c 5 (0, 0)) ∧ ∀ j, j < m → c[j]? = some (.int .u8 ((k + (j : Int)) % 256))
theorem BodyM.move {w W : World} {v : Value} {m : Nat} {k : Int} (h : BodyM w v m k) (hm : ∀ b, v.ownBlock = some b → W.heap[b]? = w.heap[b]?) : BodyM W v m k := by
  rcases h with h | ⟨b, cap, c, rfl, h1, h2⟩
  · exact .inl h
  · exact .inr ⟨b, cap, c, rfl, (hm b (by simp [Value.ownBlock])).trans h1, h2⟩
theorem mark_body_full (S : Nat → Prop) (v : Value) (m : Nat) (k0 : Int) (w : World) (hv : BodyOk S w v m) (hk0 : 0 ≤ k0) (hk1 : k0 + m ≤ 1152921504606846976) :
    Calls Try.prog 28 #[v, .int .i64 k0] w fun e w' => e = .returned (.int .i64 (k0 + m)) ∧ Only (fun k => v.ownBlock = some k) w w' ∧ BodyM w' v m k0 := by
  rcases hv.out with ⟨rfl, rfl⟩ | ⟨h, cap, c, rfl, hb, hc, hm⟩
  · have := markNil (fun _ => False) k0 w hk0
    refine this.mono ?_
    rintro e w' ⟨rfl, hT⟩
    exact ⟨by simp, ⟨hT.os, hT.tape, hT.output, hT.size, fun k _ => hT.low k (fun x => x)⟩, .inl rfl⟩
  · refine (markByteS_full h m cap k0 w c hc hm hk0 hk1 (by omega)).mono ?_
    rintro e w' ⟨rfl, hO, c', h1, _, h2⟩
    exact ⟨rfl, hO.more (fun k hk => by subst hk; simp [Value.ownBlock]), .inr ⟨h, cap, c', rfl, h1, h2⟩⟩
theorem BodyOk.move {S : Nat → Prop} {w W : World} {v : Value} {m : Nat} (h : BodyOk S w v m) (hm : ∀ b, v.ownBlock = some b → W.heap[b]? = w.heap[b]?) : BodyOk S W v m := by
  rcases h.out with h | ⟨b, cap, c, rfl, h1, h2, h3⟩
  · exact ⟨.inl h⟩
  · exact ⟨.inr ⟨b, cap, c, rfl, h1, (hm b (by simp [Value.ownBlock])).trans h2, h3⟩⟩
theorem BodyOk.not_g {g : Nat} {w : World} {v : Value} {m : Nat} (h : BodyOk (fun k => k ≠ g) w v m) : v.ownBlock ≠ some g := by
  rcases h.out with ⟨_, rfl⟩ | ⟨b, cap, c, rfl, h1, h2, h3⟩
  · simp [Value.ownBlock]
  · intro e
    exact h1 (Option.some.inj e)
structure MI (g n cap : Nat) (ms : List Nat) (bv : Nat → Value) (k0 : Int) (i : Nat) (w wr : World) : Prop where
  only : Only (fun k => k = g ∨ ∃ j, j < i ∧ (bv j).ownBlock = some k) w wr
  row : ∃ cur : Array Value, wr.heap[g]? = some (.cells cur 52 (0, 0)) ∧ cur.size = cap * 3 ∧ (∀ j, j < n → cur[j * 3 + 1]? = some (bv j)) ∧ (∀ j, j < i → cur[j * 3]? = some (.int .i64 (k0 + tot ms j)) ∧ cur[j * 3 + 2]? = some (.int .i64 (k0 + tot ms j + 1 + (ms.getD j 0 : Nat))))
  body : ∀ j, j < i → BodyM wr (bv j) (ms.getD j 0) (k0 + tot ms j + 1)
set_option maxHeartbeats 4000000 in
set_option maxRecDepth 100000 in
theorem markItemS_full (g n cap : Nat) (ms : List Nat) (bv : Nat → Value) (k0 : Int) (w : World) (cur0 : Array Value) (hg0 : w.heap[g]? = some (.cells cur0 52 (0, 0))) (hs0 : cur0.size = cap * 3) (hn : n ≤ cap) (hcap : n ≤ 1152921504606846976)
    (hbv : ∀ j, j < n → cur0[j * 3 + 1]? = some (bv j)) (hok : ∀ j, j < n → BodyOk (fun k => k ≠ g) w (bv j) (ms.getD j 0)) (hnd : ∀ i j h, i < j → j < n → (bv i).ownBlock = some h → (bv j).ownBlock ≠ some h) (hk0 : 0 ≤ k0) (hk1 : k0 + tot ms n ≤ 1152921504606846976) :
    Calls Try.prog 18 #[.slice (some ⟨g, 0, none⟩) n cap, .int .i64 k0] w fun e w' => e = .returned (.int .i64 (k0 + tot ms n)) ∧ MI g n cap ms bv k0 n w w' := by
  go_enter Try.func18, Try.ntmps18
  go_wp2
  go_loopg [1, 5] n (fun gk v1 v5 wr => ∃ i : Nat, i ≤ n ∧ gk = n - i ∧ v5 = .int .i64 (i : Int) ∧ v1 = .int .i64 (k0 + tot ms i) ∧ Aside (MI g n cap ms bv k0 i w wr))
  case atStart => exact ⟨0, by omega, by omega, rfl, by simp [tot], ⟨Only.refl _ _, ⟨cur0, hg0, hs0, hbv, fun j hj => by omega⟩, fun j hj => by omega⟩⟩
  case round =>
    obtain ⟨i, hi, rfl, rfl, rfl, HT⟩ := hrel
    obtain ⟨cur, hg, hs, hbc, hdone⟩ := HT.out.row
    by_cases hlt : (i : Int) < (n : Int)
    · have hx0 : ∃ x, cur[i * 3]? = some x := ⟨_, Array.getElem?_eq_getElem (show i * 3 < cur.size by omega)⟩
      obtain ⟨x0, hx0⟩ := hx0
      have hx2 : ∃ x, cur[i * 3 + 2]? = some x := ⟨_, Array.getElem?_eq_getElem (show i * 3 + 2 < cur.size by omega)⟩
      obtain ⟨x2, hx2⟩ := hx2
      have hx1 := hbc i (by omega)
      have ht := tot_le ms (i + 1) n (by omega)
      have ht1 : tot ms (i + 1) = tot ms i + (ms.getD i 0 + 2) := rfl
      have hbi := hok i (by omega)
      have hbo : BodyOk (fun k => k ≠ g) wr (bv i) (ms.getD i 0) := hbi.move (fun b hb => HT.out.only.far b (by
        rintro (e | ⟨j, hj, e⟩)
        · subst e
          exact hbi.not_g hb
        · exact hnd j i b hj (by omega) e hb))
      obtain ⟨mi, hmi⟩ : ∃ mi, ms.getD i 0 = mi := ⟨_, rfl⟩
      obtain ⟨T, hT⟩ : ∃ T, tot ms i = T := ⟨_, rfl⟩
      obtain ⟨T1, hT1⟩ : ∃ T1, tot ms (i + 1) = T1 := ⟨_, rfl⟩
      rw [hmi] at hbo
      rw [hmi, hT, hT1] at ht1
      rw [hT1] at ht
      rw [hT]
      have c0 := (cell_at hg (i * 3)).trans hx0
      have f0 := free_at hg (i * 3)
      have p0 : (0 : Int) ≤ (i : Int) := by omega
      have hg1 := heap_set hg (i * 3) (.int .i64 (k0 + (T : Int)))
      have e0 : (cur.setIfInBounds (i * 3) (.int .i64 (k0 + (T : Int))))[i * 3]? = some (.int .i64 (k0 + (T : Int))) := by
        rw [Array.getElem?_setIfInBounds, if_pos rfl, if_pos (by omega)]
      have e1 : (cur.setIfInBounds (i * 3) (.int .i64 (k0 + (T : Int))))[i * 3 + 1]? = some (bv i) := by
        rw [Array.getElem?_setIfInBounds_ne (by omega)]
        exact hx1
      have e2 : (cur.setIfInBounds (i * 3) (.int .i64 (k0 + (T : Int))))[i * 3 + 2]? = some x2 := by
        rw [Array.getElem?_setIfInBounds_ne (by omega)]
        exact hx2
      have c1 := (cell_at hg1 (i * 3 + 1)).trans e1
      have hng := hbi.not_g
      have hbody := mark_body_full (fun k => k ≠ g) (bv i) mi (k0 + (T : Int) + 1) (wr.setCell ⟨g, i * 3, none⟩ (.int .i64 (k0 + (T : Int)))) (hbo.move (fun b hb => heap_other _ _ _ _ _ (fun e => hng (e ▸ hb)))) (by omega) (by omega)
      have HNG : Aside ((bv i).ownBlock ≠ some g) := hng
      have HG : Aside ((wr.setCell ⟨g, i * 3, none⟩ (.int .i64 (k0 + (T : Int)))).heap[g]? = some (.cells (cur.setIfInBounds (i * 3) (.int .i64 (k0 + (T : Int)))) 52 (0, 0))) := hg1
      have HE0 : Aside ((cur.setIfInBounds (i * 3) (.int .i64 (k0 + (T : Int))))[i * 3]? = some (.int .i64 (k0 + (T : Int)))) := e0
      have HE : Aside ((cur.setIfInBounds (i * 3) (.int .i64 (k0 + (T : Int))))[i * 3 + 2]? = some x2) := e2
      have HN : Aside (∀ j, j < n → BodyOk (fun k => k ≠ g) w (bv j) (ms.getD j 0)) := hok
      have HV : Aside (∀ j, j < n → cur[j * 3 + 1]? = some (bv j)) := hbc
      have HD : Aside (∀ j, j < i → cur[j * 3]? = some (.int .i64 (k0 + tot ms j)) ∧ cur[j * 3 + 2]? = some (.int .i64 (k0 + tot ms j + 1 + (ms.getD j 0 : Nat)))) := hdone
      have HS : Aside (cur.size = cap * 3) := hs
      have HND : Aside (∀ i j h, i < j → j < n → (bv i).ownBlock = some h → (bv j).ownBlock ≠ some h) := hnd
      have HTT : Aside (tot ms i = T) := hT
      have HMI : Aside (ms.getD i 0 = mi) := hmi
      clear hg1 e0 e1 e2 hok hbc hbv hg0 hs0 hg hx0 hx1 hx2 hnd hdone hng hbi hbo hT hmi
      go_wp2_with (go_at_call 28; refine hbody.mono ?_; rintro e W2 ⟨rfl, hO2, hM2⟩; have hg2 := (hO2.far g (fun e => HNG.out e)).trans HG.out; have c2 := (cell_at hg2 (i * 3 + 2)).trans HE.out; have f2 := free_at hg2 (i * 3 + 2); have HO2 : Aside (Only _ _ W2) := hO2; have HM2 : Aside (BodyM W2 _ _ _) := hM2; have HG2 : Aside (W2.heap[g]? = _) := hg2; clear hO2 hM2 hg2)
      clear c0 c1 c2 f0 f2 hbody
      go_roundg (n - (i + 1))
      case measure => omega
      case rel =>
        have hfar : ∀ k, k ≠ g → (bv i).ownBlock ≠ some k → (W2.setCell ⟨g, i * 3 + 2, none⟩ (.int .i64 (k0 + (T : Int) + 1 + (mi : Int)))).heap[k]? = wr.heap[k]? := fun k h1 h2 => ((heap_other _ _ _ _ _ h1).trans (HO2.out.far k h2)).trans (heap_other _ _ _ _ _ h1)
        refine ⟨i + 1, by omega, rfl, by rw [Int.natCast_add]; rfl, by rw [hT1]; exact congrArg (Value.int .i64) (by omega), ⟨?_, ?_, ?_⟩⟩
        · refine (((HT.out.only.more ?_).set (.inl rfl) _ _).trans (HO2.out.more ?_)).set (.inl rfl) _ _
          · rintro k (e | ⟨j, hj, e⟩)
            · exact .inl e
            · exact .inr ⟨j, by omega, e⟩
          · intro k e
            exact .inr ⟨i, by omega, e⟩
        · refine ⟨_, heap_set HG2.out (i * 3 + 2) _, by simp [HS.out], fun j hj => ?_, fun j hj => ?_⟩
          · rw [Array.getElem?_setIfInBounds_ne (by omega), Array.getElem?_setIfInBounds_ne (by omega)]
            exact HV.out j hj
          · by_cases e : j = i
            · subst e
              refine ⟨?_, ?_⟩
              · rw [Array.getElem?_setIfInBounds_ne (by omega), HTT.out]
                exact HE0.out
              · rw [Array.getElem?_setIfInBounds, if_pos rfl, if_pos (by rw [Array.size_setIfInBounds, HS.out]; omega), HTT.out, HMI.out]
            · rw [Array.getElem?_setIfInBounds_ne (by omega), Array.getElem?_setIfInBounds_ne (by omega), Array.getElem?_setIfInBounds_ne (by omega), Array.getElem?_setIfInBounds_ne (by omega)]
              exact HD.out j (by omega)
        · intro j hj
          by_cases e : j = i
          · subst e
            rw [HTT.out, HMI.out]
            exact HM2.out.move (fun b hb => heap_other _ _ _ _ _ (fun e => HNG.out (e ▸ hb)))
          · refine (HT.out.body j (by omega)).move (fun b hb => hfar b ?_ ?_)
            · intro e2
              subst e2
              exact (HN.out j (by omega)).not_g hb
            · intro e2
              exact HND.out j i b (by omega) (by omega) hb e2
    · obtain rfl : i = n := by omega
      go_wp2
      go_ret
      exact ⟨rfl, HT.out⟩
def lens (l0 : List S52) : List Nat := l0.map (fun x => x.f1.length)
theorem lens_at (l0 : List S52) (j : Nat) (h : j < l0.length) : (lens l0).getD j 0 = (l0[j]).f1.length := by
  unfold lens
  simp [List.getD_eq_getElem?_getD, h]
/-- The cells of one element of a row. -/
theorem row_cell {cur : Array Value} {n j d : Nat} {v : Value} {inner : List Value} (hj : j < n) (ht : inner = cur.toList.take (n * 3)) (hd : d < 3) (e : ((inner.drop (j * 3)).take 3)[d]? = some v) : cur[j * 3 + d]? = some v := by
  rw [ht] at e
  rw [List.getElem?_take, if_pos hd, List.getElem?_drop, List.getElem?_take, if_pos (by omega)] at e
  simpa using e
theorem body_ok {S : Nat → Prop} {w : World} {base : Nat} {ok : Nat → Prop} {v : Value} {ys : List Int} (hR : (Kd.int .u8).R 5 w base ok v ys) (hS : ∀ k, ok k → base ≤ k → S k) : BodyOk S w v ys.length := by
  obtain ⟨h0, inner1, ho1, _⟩ := hR
  rcases ho1.2 with ⟨hv1, h1⟩ | ⟨g1, cap1, cur1, hv1, hb1, hg1, hn1, _, hs1, _⟩
  · exact ⟨.inl ⟨h1, hv1⟩⟩
  · exact ⟨.inr ⟨g1, cap1, cur1, hv1, hS g1 (h0 g1 (by rw [hv1]; rfl)) hb1, hg1, by rw [hs1]; show _ ≤ cap1 * 1; omega⟩⟩
/-- A row of items that may share: what the mark leaves as it was. -/
theorem mark_touch {w : World} {base : Nat} {ok : Nat → Prop} {A : Option Addr} {c : Nat} {l0 : List S52} (hS : Kd.S k52 52 w base ok (.slice A l0.length c) l0) (hn : l0.length ≤ 1048576) (ht : tot (lens l0) l0.length ≤ 1000000000000000) :
    Calls Try.prog 18 #[.slice A l0.length c, .int .i64 1] w fun e w' => e = .returned (.int .i64 (1 + (tot (lens l0) l0.length : Nat))) ∧ Touch (fun k => ok k ∧ base ≤ k) [52, 5] w w' := by
  obtain ⟨h0, inner, ho, hr⟩ := Kd.S_R hS
  rcases ho.2 with ⟨hv, h1⟩ | ⟨g, cap, cur, hv, hb, hg, hn', hcm, hcs, ht'⟩
  · injection hv with q1 q2 q3
    subst q1 q3
    have e0 : tot (lens l0) l0.length = 0 := by rw [h1]; rfl
    rw [h1] at e0 ⊢
    rw [e0]
    exact markItemsNil _ 1 w
  · have hgo : ok g := h0 g (by rw [hv]; rfl)
    injection hv with q1 q2 q3
    subst q1 q3
    have hin : ∀ j (hj : j < l0.length), ∃ (v1 : Value) (ok1 : Nat → Prop), cur[j * 3 + 1]? = some v1 ∧ (Kd.int .u8).R 5 w base ok1 v1 (l0[j]).f1 ∧ ∀ k, ok1 k → ok k := by
      intro j hj
      obtain ⟨v1, e, hR⟩ := k52_openM (hr.2 j _ (List.getElem?_eq_getElem hj))
      exact ⟨v1, _, row_cell hj ht'.symm (by omega) (by rw [show (inner.drop (j * 3)).take 3 = _ from e]; rfl), hR, fun k hk => hk.1⟩
    refine markItemS_touch (fun k => ok k ∧ base ≤ k) g l0.length c (lens l0) (fun j => (cur[j * 3 + 1]?).getD undef) 1 w cur hg hcs hn' (by omega) ⟨hgo, hb⟩ ?_ ?_ (by omega) (by omega)
    · intro j hj
      obtain ⟨v1, _, e, _⟩ := hin j hj
      rw [e]
      rfl
    · intro j hj
      obtain ⟨v1, _, e, hR, hok⟩ := hin j hj
      show BodyOk _ w ((cur[j * 3 + 1]?).getD undef) ((lens l0).getD j 0)
      rw [e, lens_at _ _ hj]
      exact body_ok hR (fun k h1 h2 => ⟨hok k h1, h2⟩)
/-- What the mark leaves. -/
def mkAt (m : Int) (ms : List Nat) (j : Nat) : S52 := ⟨m + (tot ms j : Nat), marks (m + (tot ms j : Nat) + 1) (ms.getD j 0), m + (tot ms j : Nat) + 1 + (ms.getD j 0 : Nat)⟩
def mkI (m : Int) (ms : List Nat) : List S52 := (List.range ms.length).map (mkAt m ms)
theorem mkI_length (m : Int) (ms : List Nat) : (mkI m ms).length = ms.length := by simp [mkI]
theorem ints_C {w : World} {h : Nat} {c : Array Value} {ys : List Int} (hc : w.heap[h]? = some (.cells c 5 (0, 0))) (hy : ∀ j, j < ys.length → c[j]? = some (.int .u8 (ys.getD j 0))) (hl : ys.length ≤ 1152921504606846976) : (Kd.int .u8).C w (some ⟨h, 0, none⟩) ys.length ys := by
  refine ⟨rfl, by omega, fun _ => ⟨_, rfl, fun j p hp => ?_⟩⟩
  have hj : j < ys.length := (List.getElem?_eq_some_iff.1 hp).1
  refine ⟨[.int .u8 p], rfl, rfl, fun i u hu => ?_⟩
  cases i with
  | succ i => simp at hu
  | zero =>
    obtain rfl : (.int .u8 p : Value) = u := by simpa using hu
    have e := hy j hj
    rw [List.getD_eq_getElem?_getD, hp] at e
    have a : (Addr.add ⟨h, 0, none⟩ (j * (Kd.int .u8).sz + 0) : Addr) = ⟨h, j, none⟩ := by
      show (Addr.add ⟨h, 0, none⟩ (j * 1 + 0) : Addr) = _
      simp [Addr.add]; omega
    rw [a]
    exact (cell_at hc j).trans e
theorem mark_full {w : World} {base : Nat} {ok : Nat → Prop} {A : Option Addr} {c : Nat} {xs : List (S52 × Value)} (hR : kB.R 52 w base ok (.slice A xs.length c) xs) (hnd : (blocks xs).Nodup) (hn : xs.length ≤ 1048576) (hb : ∀ x ∈ xs, x.1.f1.length ≤ 1048576) (ht : tot (lens (xs.map (·.1))) xs.length ≤ 1000000000000000) :
    Calls Try.prog 18 #[.slice A xs.length c, .int .i64 1] w fun e w' => e = .returned (.int .i64 (1 + (tot (lens (xs.map (·.1))) xs.length : Nat))) ∧ Only (fun k => base ≤ k ∧ k < w.heap.size ∧ ok k) w w' ∧ Kd.C k52 w' A xs.length (mkI 1 (lens (xs.map (·.1)))) := by
  have hbl := kB_blocks hR
  obtain ⟨h0, inner, ho, hr⟩ := hR
  have hlen : (lens (xs.map (·.1))).length = xs.length := by simp [lens]
  rcases ho.2 with ⟨hv, h1⟩ | ⟨g, cap, cur, hv, hbg, hg, hn', hcm, hcs, ht'⟩
  · injection hv with q1 q2 q3
    subst q1 q3
    have e0 : xs = [] := List.length_eq_zero_iff.1 h1
    subst e0
    refine (markItemsNil (fun _ => False) 1 w).mono ?_
    rintro e w' ⟨rfl, hT⟩
    exact ⟨rfl, ⟨hT.os, hT.tape, hT.output, hT.size, fun k _ => hT.low k (fun x => x)⟩, ⟨rfl, by simp, fun hp => absurd hp (by simp)⟩⟩
  · have hgo : ok g := h0 g (by rw [hv]; rfl)
    injection hv with q1 q2 q3
    subst q1 q3
    have hin : ∀ j (hj : j < xs.length), cur[j * 3 + 1]? = some (xs[j]).2 ∧ ∃ ok1 : Nat → Prop, (Kd.int .u8).R 5 w base ok1 (xs[j]).2 (xs[j]).1.f1 ∧ ∀ k, ok1 k → ok k ∧ k ≠ g := by
      intro j hj
      obtain ⟨h1, h2⟩ := hr.2 j _ (List.getElem?_eq_getElem hj)
      obtain ⟨v1, e, hR⟩ := k52_openM h1
      have e : (inner.drop (j * 3)).take 3 = [.int .i64 xs[j].1.f0, v1, .int .i64 xs[j].1.f2] := e
      have h2 : ((inner.drop (j * 3)).take 3)[1]? = some xs[j].2 := h2
      have e2 : v1 = xs[j].2 := by
        rw [e] at h2
        exact Option.some.inj h2
      rw [← e2]
      exact ⟨row_cell hj ht'.symm (by omega) (by rw [e]; rfl), _, hR, fun k hk => ⟨hk.1, fun e3 => hk.2 (by rw [e3]; rfl)⟩⟩
    have hbv : ∀ j, j < xs.length → cur[j * 3 + 1]? = some (((xs[j]?).map (·.2)).getD undef) := by
      intro j hj
      rw [List.getElem?_eq_getElem hj]
      exact (hin j hj).1
    have hlj : ∀ j (hj : j < xs.length), (lens (xs.map (·.1))).getD j 0 = (xs[j]).1.f1.length := by
      intro j hj
      rw [lens_at _ j (by simpa using hj)]
      simp
    refine (markItemS_full g xs.length c (lens (xs.map (·.1))) (fun j => ((xs[j]?).map (·.2)).getD undef) 1 w cur hg hcs hn' (by omega) hbv ?_ ?_ (by omega) (by omega)).mono ?_
    · intro j hj
      rw [hlj j hj]
      show BodyOk _ w (((xs[j]?).map (·.2)).getD undef) _
      rw [List.getElem?_eq_getElem hj]
      obtain ⟨_, ok1, hR, hk⟩ := hin j hj
      exact body_ok hR (fun k h1 _ => (hk k h1).2)
    · intro i j h hij hj h1 h2
      rw [List.getElem?_eq_getElem (by omega)] at h1
      rw [List.getElem?_eq_getElem hj] at h2
      have h1 : (xs[i]).2.ownBlock = some h := h1
      have h2 : (xs[j]).2.ownBlock = some h := h2
      have hp := (List.pairwise_filterMap (f := fun x : S52 × Value => x.2.ownBlock)).1 hnd
      exact (List.pairwise_iff_getElem.1 hp i j (by omega) hj hij) h h1 h h2 rfl
    · rintro e w' ⟨rfl, hMI⟩
      refine ⟨rfl, hMI.only.more ?_, ?_⟩
      · rintro k (e | ⟨j, hj, e⟩)
        · subst e
          exact ⟨hbg, (Array.getElem?_eq_some_iff.1 hg).1, hgo⟩
        · rw [List.getElem?_eq_getElem hj] at e
          have e : (xs[j]).2.ownBlock = some k := e
          have h2 := hbl k (List.mem_filterMap.2 ⟨xs[j], List.getElem_mem hj, e⟩)
          exact ⟨h2.1, h2.2.1, h2.2.2.1⟩
      · obtain ⟨cur', hg', hs', hv', hd'⟩ := hMI.row
        refine ⟨by rw [mkI_length, hlen], by omega, fun _ => ⟨_, rfl, fun j p hp => ?_⟩⟩
        have hj : j < xs.length := by
          have := (List.getElem?_eq_some_iff.1 hp).1
          rw [mkI_length, hlen] at this
          exact this
        obtain rfl : mkAt 1 (lens (xs.map (·.1))) j = p := by
          unfold mkI at hp
          simpa [hlen, hj] using hp
        have hvj := hv' j hj
        rw [List.getElem?_eq_getElem hj] at hvj
        have hvj : cur'[j * 3 + 1]? = some (xs[j]).2 := hvj
        have hBM := hMI.body j hj
        rw [List.getElem?_eq_getElem hj, hlj j hj] at hBM
        have hBM : BodyM w' (xs[j]).2 (xs[j]).1.f1.length _ := hBM
        obtain ⟨_, ok1, hRj, _⟩ := hin j hj
        obtain ⟨A1, c1, e1⟩ := Kd.R_slice hRj
        have hl1 : (xs[j]).1.f1.length ≤ c1 := by
          rw [e1] at hRj
          exact (Kd.R_reads' hRj).2.1
        have hml : (mkAt 1 (lens (xs.map (·.1))) j).f1.length = (xs[j]).1.f1.length := by
          show (marks _ _).length = _
          rw [marks_length, hlj j hj]
        have hbC : (Kd.int .u8).C w' A1 (mkAt 1 (lens (xs.map (·.1))) j).f1.length (mkAt 1 (lens (xs.map (·.1))) j).f1 := by
          rcases hBM with h0 | ⟨h, cap, c', e2, h3, h4⟩
          · rw [← hml] at h0
            rw [h0, List.length_eq_zero_iff.1 h0]
            exact ⟨rfl, by simp, fun hp => absurd hp (by simp)⟩
          · rw [e1] at e2
            injection e2 with q1 q2 q3
            subst q1
            have hb1 := hb _ (List.getElem_mem hj)
            refine ints_C h3 (fun q hq => ?_) (by omega)
            rw [hml] at hq
            rw [h4 q hq]
            show _ = some (Value.int .u8 ((marks _ _).getD q 0))
            rw [List.getD_eq_getElem?_getD, marks_at _ _ _ (by rw [hlj j hj]; exact hq)]
            rfl
        refine ⟨_, rfl, k52_mk w' _ (A1 := A1) (c1 := c1) (by rw [hml]; exact hl1) hbC, fun i u hu => ?_⟩
        have hcur : ∀ d v, cur'[j * 3 + d]? = some v → w'.cell? (Addr.add ⟨g, 0, none⟩ (j * 3 + d)) = some v := by
          intro d v hv
          have a : (Addr.add ⟨g, 0, none⟩ (j * 3 + d) : Addr) = ⟨g, j * 3 + d, none⟩ := by simp [Addr.add]; omega
          rw [a]
          exact (cell_at hg' _).trans hv
        match i, hu with
        | 0, hu =>
          obtain rfl := Option.some.inj hu
          exact hcur 0 _ (hd' j hj).1
        | 1, hu =>
          obtain rfl := Option.some.inj hu
          rw [hml, ← e1]
          exact hcur 1 _ hvj
        | 2, hu =>
          obtain rfl := Option.some.inj hu
          exact hcur 2 _ (hd' j hj).2
        | i + 3, hu => simp at hu
end Go.Proofs.Ytmeobalddjembaa.GFnStrict.Hand
