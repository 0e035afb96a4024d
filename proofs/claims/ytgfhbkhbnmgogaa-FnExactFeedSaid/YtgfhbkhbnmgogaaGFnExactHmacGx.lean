import Derived.Test.YtgfhbkhbnmgogaaGFnExactHmacFx
namespace Go.Proofs.Ytgfhbkhbnmgogaa.GFnExactHmac.Hand
open Go.RowKit Go.Proofs.YtgfhbkhbnmgogaaW.PrintWords Go.Proofs.YtgfhbkhbnmgogaaW.PrintLast Go.Proofs.YtgfhbkhbnmgogaaW.PrintMore
set_option linter.unusedVariables false
set_option linter.unusedSimpArgs false
/-- Bytes that lie somewhere in a block of bytes. -/
def RawS (w : World) (A : Option Addr) (n : Nat) (xs : List Int) : Prop :=
  xs.length = n ∧ (n = 0 ∨ ∃ g o cur, A = some ⟨g, o, none⟩ ∧ w.heap[g]? = some (.cells cur 5 (0, 0)) ∧ ∀ i, i < n → cur[o + i]? = some (.int .u8 (xs.getD i 0)))
/-- Bytes of one's own: what is wanted of them, and that it lives on where blocks of bytes do. -/
def RawM (n0 : Nat) (w : World) (A : Option Addr) (n c : Nat) (xs : List Int) : Prop :=
  xs.length = n ∧ (Kd.int .u8).R 5 w (n0 + 2) (fun k => ∃ cells, w.heap[k]? = some (.cells cells 5 (0, 0))) (.slice A n c) xs
theorem RawM.move {n0 : Nat} {w w' : World} {A : Option Addr} {n c : Nat} {xs : List Int} (h : RawM n0 w A n c xs) (hm : ∀ (g : Nat) (cur : Array Value), w.heap[g]? = some (.cells cur 5 (0, 0)) → w'.heap[g]? = some (.cells cur 5 (0, 0))) : RawM n0 w' A n c xs := by
  obtain ⟨h1, h2⟩ := h
  refine ⟨h1, Kd.R_mono (Kd.R_step (Kd.R_bound h2) (fun k hk hlt => ?_)) (fun k hk => ?_)⟩
  · obtain ⟨⟨cells, hc⟩, _⟩ := hk
    rw [hm k cells hc, hc]
  · obtain ⟨⟨cells, hc⟩, _⟩ := hk
    exact ⟨cells, hm k cells hc⟩
theorem RawM.of_R {n0 : Nat} {w : World} {base : Nat} {ok : Nat → Prop} {A : Option Addr} {n c : Nat} {xs : List Int} (h : (Kd.int .u8).R 5 w base ok (.slice A n c) xs) (hn : xs.length = n) (hb : n0 + 1 < base) : RawM n0 w A n c xs := by
  refine ⟨hn, Kd.R_lower (Kd.R_mono (Kd.R_bound h) (fun k hk => ?_)) (by omega)⟩
  obtain ⟨_, _, _, q, hq, hc⟩ := hk
  obtain rfl : q = 5 := by simpa [Kd.int, Kd.scalar] using hq
  exact hc
theorem RawM.B {n0 : Nat} {w : World} {A : Option Addr} {n c : Nat} {xs : List Int} (h : RawM n0 w A n c xs) : RawB n0 w A n xs := RawB.of_R h.2 h.1 (by omega)
theorem RawS.of_B {n0 : Nat} {w : World} {A : Option Addr} {n : Nat} {xs : List Int} (h : RawB n0 w A n xs) : RawS w A n xs := by
  obtain ⟨h1, h2⟩ := h
  subst h1
  refine ⟨rfl, ?_⟩
  rcases h2 with rfl | ⟨g, cur, rfl, _, hg, hc⟩
  · exact .inl rfl
  · exact .inr ⟨g, 0, cur, rfl, hg, fun i hi => by rw [Nat.zero_add]; exact hc i hi⟩
theorem RawS.C {w : World} {A : Option Addr} {n : Nat} {xs : List Int} (h : RawS w A n xs) (hl : n ≤ 1000000) : (Kd.int .u8).C w A n xs := by
  obtain ⟨h1, h2⟩ := h
  subst h1
  rcases h2 with h0 | ⟨g, o, cur, rfl, hg, hc⟩
  · exact ⟨rfl, by omega, fun h => absurd h0 (by omega)⟩
  · refine ⟨rfl, by omega, fun _ => ⟨_, rfl, fun j p hp => ⟨[.int .u8 p], rfl, rfl, fun i u hu => ?_⟩⟩⟩
    cases i with
    | succ i => simp at hu
    | zero =>
      obtain rfl : (.int .u8 p : Value) = u := by simpa using hu
      have hj : j < xs.length := (List.getElem?_eq_some_iff.1 hp).1
      have a : (Addr.add ⟨g, o, none⟩ (j * (Kd.int .u8).sz + 0) : Addr) = ⟨g, o + j, none⟩ := by
        show (Addr.add ⟨g, o, none⟩ (j * 1 + 0) : Addr) = _
        rw [Addr.add_mid]
        simp
      rw [a, cell_at hg (o + j), hc j hj, List.getD_eq_getElem?_getD, hp]
      rfl
theorem RawS.move {w w' : World} {A : Option Addr} {n : Nat} {xs : List Int} (h : RawS w A n xs) (hm : ∀ (g : Nat) (cur : Array Value), w.heap[g]? = some (.cells cur 5 (0, 0)) → w'.heap[g]? = some (.cells cur 5 (0, 0))) : RawS w' A n xs := by
  obtain ⟨h1, h2⟩ := h
  refine ⟨h1, h2.imp id ?_⟩
  rintro ⟨g, o, cur, e, h4, h5⟩
  exact ⟨g, o, cur, e, hm g cur h4, h5⟩
theorem RawS.drop {w : World} {A : Option Addr} {n c k : Nat} {xs : List Int} (h : RawS w A n xs) (hk : k ≤ n) (hk0 : 0 < k) (hc : n ≤ c) : RawS w (if c = k then A else A.map (·.add k)) (n - k) (xs.drop k) := by
  obtain ⟨h1, h2⟩ := h
  refine ⟨by rw [List.length_drop, h1], ?_⟩
  rcases h2 with h0 | ⟨g, o, cur, rfl, hg, ha⟩
  · exact .inl (by omega)
  · by_cases e : c = k
    · exact .inl (by omega)
    · refine .inr ⟨g, o + k, cur, ?_, hg, fun i hi => ?_⟩
      · rw [if_neg e, Option.map_some, Addr.add_mid]
      · have := ha (k + i) (by omega)
        rw [Nat.add_assoc, this]
        simp [List.getElem?_drop]
theorem wrap_blk (h : V8) (b : List Int) : wrapV (blk h b) = blk h b := by
  show (⟨_, _, _, _, _, _, _, _⟩ : V8) = ⟨_, _, _, _, _, _, _, _⟩
  simp [blk, addV]
theorem l_range {h : V8} (hw : wrapV h = h) (i : Nat) : 0 ≤ h.l.getD i 0 ∧ h.l.getD i 0 < 4294967296 := by
  have e : ∀ x ∈ h.l, 0 ≤ x ∧ x < 4294967296 := by
    rw [← hw]
    intro x hx
    have hm : ∃ y : Int, x = y % 4294967296 := by
      simp [V8.l, wrapV] at hx
      rcases hx with h | h | h | h | h | h | h | h <;> exact ⟨_, h⟩
    obtain ⟨y, rfl⟩ := hm
    exact ⟨Int.emod_nonneg _ (by decide), Int.emod_lt_of_pos _ (by decide)⟩
  rcases Nat.lt_or_ge i h.l.length with hi | hi
  · rw [List.getD_eq_getElem?_getD, List.getElem?_eq_getElem hi]
    exact e _ (List.getElem_mem hi)
  · rw [List.getD_eq_getElem?_getD, List.getElem?_eq_none hi]
    simp
theorem load_run {P : Program} {o : Oper} {a : Act} {w : World} {c : Array Value} {t : TypeId} {x : Operand} {g : Nat} {d : TypeDesc} (ho : o.op = .load t x) (hx : a.eval x = .pointer (some ⟨g, 0, none⟩)) (hu : P.underlying t = some d) (hd : d.isRow = true) (hg : w.heap[g]? = some (.cells c t (0, 0))) (hi : (P.info? t).map (·.size) = some c.size) : (execOp a.eval o).run P w = .ok (.value (.agg c)) w := by
  unfold execOp
  simp only [ho, hx, Instr.loadAt, Instr.sureAddr, Sem.run_bind, Sem.run_pure, Result.andThen_ok, load_row hu hd hi hg]
theorem store_run {P : Program} {o : Oper} {a : Act} {w : World} {c c' : Array Value} {t : TypeId} {p : Tmp} {y : Operand} {g : Nat} (ho : o.op = .store t (.tmp p) y) (hx : a.eval (.tmp p) = .pointer (some ⟨g, 0, none⟩)) (hy : a.eval y = .agg c') (hg : w.heap[g]? = some (.cells c t (0, 0))) (hi : (P.info? t).map (·.size) = some c'.size) (hc : c.size = c'.size) (h1 : c'.all (·.oneCell') = true) : ∃ w', (execOp a.eval o).run P w = .ok .skip w' ∧ w'.heap[g]? = some (.cells c' t (0, 0)) ∧ (∀ k, k ≠ g → w'.heap[k]? = w.heap[k]?) ∧ (∀ B, B ≤ g → Below B w w') := by
  have hr := run_storeVar_row (P := P) w g t t c c' hg hi hc h1
  have hk : ∀ k, k ≠ g → (w.setRow g c').heap[k]? = w.heap[k]? := fun k hk => by
    simp only [World.setRow, Array.getElem?_modify]
    rw [if_neg (fun e => hk e.symm)]
  refine ⟨w.setRow g c', ?_, ?_, hk, fun B hB => ⟨rfl, rfl, rfl, by simp [World.setRow], fun k hk' => hk k (by omega)⟩⟩
  · unfold execOp
    simp only [ho, hx, hy, Instr.storeAt, Instr.sureAddr, Sem.run_bind, Sem.run_pure, Result.andThen_ok, hr]
  · simp only [World.setRow, Array.getElem?_modify, if_true, hg]
    rfl
theorem op_store {P : Program} {o : Oper} {a : Act} {w : World} {K : Act → World → Prop} {Q : Exit → Act → World → Prop} {c c' : Array Value} {t : TypeId} {p : Tmp} {y : Operand} {g : Nat} (ho : o.op = .store t (.tmp p) y) (hx : a.eval (.tmp p) = .pointer (some ⟨g, 0, none⟩)) (hy : a.eval y = .agg c') (hg : w.heap[g]? = some (.cells c t (0, 0))) (hi : (P.info? t).map (·.size) = some c'.size) (hc : c.size = c'.size) (h1 : c'.all (·.oneCell') = true) (h : ∀ w', w'.heap[g]? = some (.cells c' t (0, 0)) → (∀ k, k ≠ g → w'.heap[k]? = w.heap[k]?) → (∀ B, B ≤ g → Below B w w') → K (a.put o.dst undef) w') : o.wp P a w K Q := by
  obtain ⟨w', hr, h2, h3, h4⟩ := store_run (P := P) ho hx hy hg hi hc h1
  exact op_skip hr (h w' h2 h3 h4)
theorem keep_of {w w' : World} (h : Below w.heap.size w w') : ∀ (k : Nat) (o : Obj), w.heap[k]? = some o → w'.heap[k]? = some o := fun k o hk => blk_below hk h
structure Gx (h : V8) (Ar : Option Addr) (nr cr : Nat) (H : V8) (m : Nat) (Ad : Option Addr) (nd cd : Nat) (A : Option Addr) (n c : Nat) (cur : List Int) (g5 : Nat) (w0 : World) (L : Array Bool) (x8 x27 x28 x29 x30 x31 x32 x33 x34 : Value) (w : World) : Prop where
  bw : Below w0.heap.size w0 w
  hb : w.heap[w0.heap.size]? = some (.cells (stC H.l (.slice Ar nr cr) (m : Int)) 32 (0, 0))
  hz : w.heap[w0.heap.size + 1]? = some (.cells (stC (List.replicate 8 0) (.slice none 0 0) 0) 32 (0, 0))
  h5 : w.heap[g5]? = some (.cells h.u 67 (0, 0))
  rw' : RawS w A n cur
  k7 : L.getD 7 false = true → L.getD 1 false = true
  k9 : L.getD 9 false = true → L.getD 8 false = true
  k91 : L.getD 9 false = true → L.getD 1 false = true
  f0 : L.getD 0 false = true → x27 = .slice A n c
  f1 : L.getD 1 false = true → ∃ A8 c8, x28 = .slice A8 n c8 ∧ RawM w0.heap.size w A8 n c8 cur
  f2 : L.getD 2 false = true → x29 = .pointer (some ⟨w0.heap.size, 9, none⟩)
  f3 : L.getD 3 false = true → x30 = .int .i64 (m : Int)
  f4 : L.getD 4 false = true → x31 = .slice Ad nd cd
  f5 : L.getD 5 false = true → x32 = .int .i64 (nd : Int)
  f6 : L.getD 6 false = true → x33 = .int .i64 ((m + nd : Nat) : Int)
  f7 : L.getD 7 false = true → x34 = .agg (stC (List.replicate 8 0) x28 ((m + nd : Nat) : Int))
  f8 : L.getD 8 false = true → ∃ g cs, x8 = .pointer (some ⟨g, 0, none⟩) ∧ w0.heap.size + 1 < g ∧ w.heap[g]? = some (.cells cs 32 (0, 0)) ∧ cs.size = 10 ∧ (L.getD 9 false = true → cs = stC (List.replicate 8 0) x28 ((m + nd : Nat) : Int))
theorem Gx.move {h : V8} {Ar : Option Addr} {nr cr : Nat} {H : V8} {m : Nat} {Ad : Option Addr} {nd cd : Nat} {A : Option Addr} {n c : Nat} {cur : List Int} {g5 : Nat} {w0 : World} {L : Array Bool} {x8 x27 x28 x29 x30 x31 x32 x33 x34 : Value} {w w' : World} (F : Gx h Ar nr cr H m Ad nd cd A n c cur g5 w0 L x8 x27 x28 x29 x30 x31 x32 x33 x34 w) (hb : Below w0.heap.size w w') (hk : ∀ (k : Nat) (o : Obj), w.heap[k]? = some o → w'.heap[k]? = some o) : Gx h Ar nr cr H m Ad nd cd A n c cur g5 w0 L x8 x27 x28 x29 x30 x31 x32 x33 x34 w' where
  bw := F.bw.trans hb
  hb := hk _ _ F.hb
  hz := hk _ _ F.hz
  h5 := hk _ _ F.h5
  rw' := F.rw'.move (fun _ _ h => hk _ _ h)
  k7 := F.k7
  k9 := F.k9
  k91 := F.k91
  f0 := F.f0
  f1 := fun h => by
    obtain ⟨A, c, e, h1⟩ := F.f1 h
    exact ⟨A, c, e, h1.move (fun _ _ h => hk _ _ h)⟩
  f2 := F.f2
  f3 := F.f3
  f4 := F.f4
  f5 := F.f5
  f6 := F.f6
  f7 := F.f7
  f8 := fun h => by
    obtain ⟨g, c, e, h1, h2, h3⟩ := F.f8 h
    exact ⟨g, c, e, h1, hk _ _ h2, h3⟩
theorem Gx.set0 {h : V8} {Ar : Option Addr} {nr cr : Nat} {H : V8} {m : Nat} {Ad : Option Addr} {nd cd : Nat} {A : Option Addr} {n c : Nat} {cur : List Int} {g5 : Nat} {w0 : World} {L : Array Bool} {x8 x27 x28 x29 x30 x31 x32 x33 x34 : Value} {v : Value} {w : World} (F : Gx h Ar nr cr H m Ad nd cd A n c cur g5 w0 L x8 x27 x28 x29 x30 x31 x32 x33 x34 w) (hun : L.getD 0 true = false) (hnew : v = .slice A n c) : Gx h Ar nr cr H m Ad nd cd A n c cur g5 w0 (L.setIfInBounds 0 true) x8 v x28 x29 x30 x31 x32 x33 x34 w where
  bw := F.bw
  hb := F.hb
  hz := F.hz
  h5 := F.h5
  rw' := F.rw'
  k7 := fun h => by rw [getD_ne (by decide)] at h ⊢; exact F.k7 h
  k9 := fun h => by rw [getD_ne (by decide)] at h ⊢; exact F.k9 h
  k91 := fun h => by rw [getD_ne (by decide)] at h ⊢; exact F.k91 h
  f0 := fun _ => hnew
  f1 := fun h => F.f1 (by rw [getD_ne (by decide)] at h; exact h)
  f2 := fun h => F.f2 (by rw [getD_ne (by decide)] at h; exact h)
  f3 := fun h => F.f3 (by rw [getD_ne (by decide)] at h; exact h)
  f4 := fun h => F.f4 (by rw [getD_ne (by decide)] at h; exact h)
  f5 := fun h => F.f5 (by rw [getD_ne (by decide)] at h; exact h)
  f6 := fun h => F.f6 (by rw [getD_ne (by decide)] at h; exact h)
  f7 := fun h => F.f7 (by rw [getD_ne (by decide)] at h; exact h)
  f8 := fun h => by
    rw [getD_ne (by decide)] at h
    obtain ⟨g, c, e, h1, h2, h3, h4⟩ := F.f8 h
    exact ⟨g, c, e, h1, h2, h3, fun h => by rw [getD_ne (by decide)] at h; exact h4 h⟩
theorem Gx.set1 {h : V8} {Ar : Option Addr} {nr cr : Nat} {H : V8} {m : Nat} {Ad : Option Addr} {nd cd : Nat} {A : Option Addr} {n c : Nat} {cur : List Int} {g5 : Nat} {w0 : World} {L : Array Bool} {x8 x27 x28 x29 x30 x31 x32 x33 x34 : Value} {v : Value} {w : World} (F : Gx h Ar nr cr H m Ad nd cd A n c cur g5 w0 L x8 x27 x28 x29 x30 x31 x32 x33 x34 w) (hun : L.getD 1 true = false) (hnew : ∃ A8 c8, v = .slice A8 n c8 ∧ RawM w0.heap.size w A8 n c8 cur) : Gx h Ar nr cr H m Ad nd cd A n c cur g5 w0 (L.setIfInBounds 1 true) x8 x27 v x29 x30 x31 x32 x33 x34 w where
  bw := F.bw
  hb := F.hb
  hz := F.hz
  h5 := F.h5
  rw' := F.rw'
  k7 := fun _ => getD_self hun
  k9 := fun h => by rw [getD_ne (by decide)] at h ⊢; exact F.k9 h
  k91 := fun _ => getD_self hun
  f0 := fun h => F.f0 (by rw [getD_ne (by decide)] at h; exact h)
  f1 := fun _ => hnew
  f2 := fun h => F.f2 (by rw [getD_ne (by decide)] at h; exact h)
  f3 := fun h => F.f3 (by rw [getD_ne (by decide)] at h; exact h)
  f4 := fun h => F.f4 (by rw [getD_ne (by decide)] at h; exact h)
  f5 := fun h => F.f5 (by rw [getD_ne (by decide)] at h; exact h)
  f6 := fun h => F.f6 (by rw [getD_ne (by decide)] at h; exact h)
  f7 := fun h => by rw [getD_ne (by decide)] at h; exact (getD_no hun (F.k7 h)).elim
  f8 := fun h => by
    rw [getD_ne (by decide)] at h
    obtain ⟨g, c, e, h1, h2, h3, h4⟩ := F.f8 h
    exact ⟨g, c, e, h1, h2, h3, fun h => by rw [getD_ne (by decide)] at h; exact (getD_no hun (F.k91 h)).elim⟩
theorem Gx.set2 {h : V8} {Ar : Option Addr} {nr cr : Nat} {H : V8} {m : Nat} {Ad : Option Addr} {nd cd : Nat} {A : Option Addr} {n c : Nat} {cur : List Int} {g5 : Nat} {w0 : World} {L : Array Bool} {x8 x27 x28 x29 x30 x31 x32 x33 x34 : Value} {v : Value} {w : World} (F : Gx h Ar nr cr H m Ad nd cd A n c cur g5 w0 L x8 x27 x28 x29 x30 x31 x32 x33 x34 w) (hun : L.getD 2 true = false) (hnew : v = .pointer (some ⟨w0.heap.size, 9, none⟩)) : Gx h Ar nr cr H m Ad nd cd A n c cur g5 w0 (L.setIfInBounds 2 true) x8 x27 x28 v x30 x31 x32 x33 x34 w where
  bw := F.bw
  hb := F.hb
  hz := F.hz
  h5 := F.h5
  rw' := F.rw'
  k7 := fun h => by rw [getD_ne (by decide)] at h ⊢; exact F.k7 h
  k9 := fun h => by rw [getD_ne (by decide)] at h ⊢; exact F.k9 h
  k91 := fun h => by rw [getD_ne (by decide)] at h ⊢; exact F.k91 h
  f0 := fun h => F.f0 (by rw [getD_ne (by decide)] at h; exact h)
  f1 := fun h => F.f1 (by rw [getD_ne (by decide)] at h; exact h)
  f2 := fun _ => hnew
  f3 := fun h => F.f3 (by rw [getD_ne (by decide)] at h; exact h)
  f4 := fun h => F.f4 (by rw [getD_ne (by decide)] at h; exact h)
  f5 := fun h => F.f5 (by rw [getD_ne (by decide)] at h; exact h)
  f6 := fun h => F.f6 (by rw [getD_ne (by decide)] at h; exact h)
  f7 := fun h => F.f7 (by rw [getD_ne (by decide)] at h; exact h)
  f8 := fun h => by
    rw [getD_ne (by decide)] at h
    obtain ⟨g, c, e, h1, h2, h3, h4⟩ := F.f8 h
    exact ⟨g, c, e, h1, h2, h3, fun h => by rw [getD_ne (by decide)] at h; exact h4 h⟩
theorem Gx.set3 {h : V8} {Ar : Option Addr} {nr cr : Nat} {H : V8} {m : Nat} {Ad : Option Addr} {nd cd : Nat} {A : Option Addr} {n c : Nat} {cur : List Int} {g5 : Nat} {w0 : World} {L : Array Bool} {x8 x27 x28 x29 x30 x31 x32 x33 x34 : Value} {v : Value} {w : World} (F : Gx h Ar nr cr H m Ad nd cd A n c cur g5 w0 L x8 x27 x28 x29 x30 x31 x32 x33 x34 w) (hun : L.getD 3 true = false) (hnew : v = .int .i64 (m : Int)) : Gx h Ar nr cr H m Ad nd cd A n c cur g5 w0 (L.setIfInBounds 3 true) x8 x27 x28 x29 v x31 x32 x33 x34 w where
  bw := F.bw
  hb := F.hb
  hz := F.hz
  h5 := F.h5
  rw' := F.rw'
  k7 := fun h => by rw [getD_ne (by decide)] at h ⊢; exact F.k7 h
  k9 := fun h => by rw [getD_ne (by decide)] at h ⊢; exact F.k9 h
  k91 := fun h => by rw [getD_ne (by decide)] at h ⊢; exact F.k91 h
  f0 := fun h => F.f0 (by rw [getD_ne (by decide)] at h; exact h)
  f1 := fun h => F.f1 (by rw [getD_ne (by decide)] at h; exact h)
  f2 := fun h => F.f2 (by rw [getD_ne (by decide)] at h; exact h)
  f3 := fun _ => hnew
  f4 := fun h => F.f4 (by rw [getD_ne (by decide)] at h; exact h)
  f5 := fun h => F.f5 (by rw [getD_ne (by decide)] at h; exact h)
  f6 := fun h => F.f6 (by rw [getD_ne (by decide)] at h; exact h)
  f7 := fun h => F.f7 (by rw [getD_ne (by decide)] at h; exact h)
  f8 := fun h => by
    rw [getD_ne (by decide)] at h
    obtain ⟨g, c, e, h1, h2, h3, h4⟩ := F.f8 h
    exact ⟨g, c, e, h1, h2, h3, fun h => by rw [getD_ne (by decide)] at h; exact h4 h⟩
theorem Gx.set4 {h : V8} {Ar : Option Addr} {nr cr : Nat} {H : V8} {m : Nat} {Ad : Option Addr} {nd cd : Nat} {A : Option Addr} {n c : Nat} {cur : List Int} {g5 : Nat} {w0 : World} {L : Array Bool} {x8 x27 x28 x29 x30 x31 x32 x33 x34 : Value} {v : Value} {w : World} (F : Gx h Ar nr cr H m Ad nd cd A n c cur g5 w0 L x8 x27 x28 x29 x30 x31 x32 x33 x34 w) (hun : L.getD 4 true = false) (hnew : v = .slice Ad nd cd) : Gx h Ar nr cr H m Ad nd cd A n c cur g5 w0 (L.setIfInBounds 4 true) x8 x27 x28 x29 x30 v x32 x33 x34 w where
  bw := F.bw
  hb := F.hb
  hz := F.hz
  h5 := F.h5
  rw' := F.rw'
  k7 := fun h => by rw [getD_ne (by decide)] at h ⊢; exact F.k7 h
  k9 := fun h => by rw [getD_ne (by decide)] at h ⊢; exact F.k9 h
  k91 := fun h => by rw [getD_ne (by decide)] at h ⊢; exact F.k91 h
  f0 := fun h => F.f0 (by rw [getD_ne (by decide)] at h; exact h)
  f1 := fun h => F.f1 (by rw [getD_ne (by decide)] at h; exact h)
  f2 := fun h => F.f2 (by rw [getD_ne (by decide)] at h; exact h)
  f3 := fun h => F.f3 (by rw [getD_ne (by decide)] at h; exact h)
  f4 := fun _ => hnew
  f5 := fun h => F.f5 (by rw [getD_ne (by decide)] at h; exact h)
  f6 := fun h => F.f6 (by rw [getD_ne (by decide)] at h; exact h)
  f7 := fun h => F.f7 (by rw [getD_ne (by decide)] at h; exact h)
  f8 := fun h => by
    rw [getD_ne (by decide)] at h
    obtain ⟨g, c, e, h1, h2, h3, h4⟩ := F.f8 h
    exact ⟨g, c, e, h1, h2, h3, fun h => by rw [getD_ne (by decide)] at h; exact h4 h⟩
theorem Gx.set5 {h : V8} {Ar : Option Addr} {nr cr : Nat} {H : V8} {m : Nat} {Ad : Option Addr} {nd cd : Nat} {A : Option Addr} {n c : Nat} {cur : List Int} {g5 : Nat} {w0 : World} {L : Array Bool} {x8 x27 x28 x29 x30 x31 x32 x33 x34 : Value} {v : Value} {w : World} (F : Gx h Ar nr cr H m Ad nd cd A n c cur g5 w0 L x8 x27 x28 x29 x30 x31 x32 x33 x34 w) (hun : L.getD 5 true = false) (hnew : v = .int .i64 (nd : Int)) : Gx h Ar nr cr H m Ad nd cd A n c cur g5 w0 (L.setIfInBounds 5 true) x8 x27 x28 x29 x30 x31 v x33 x34 w where
  bw := F.bw
  hb := F.hb
  hz := F.hz
  h5 := F.h5
  rw' := F.rw'
  k7 := fun h => by rw [getD_ne (by decide)] at h ⊢; exact F.k7 h
  k9 := fun h => by rw [getD_ne (by decide)] at h ⊢; exact F.k9 h
  k91 := fun h => by rw [getD_ne (by decide)] at h ⊢; exact F.k91 h
  f0 := fun h => F.f0 (by rw [getD_ne (by decide)] at h; exact h)
  f1 := fun h => F.f1 (by rw [getD_ne (by decide)] at h; exact h)
  f2 := fun h => F.f2 (by rw [getD_ne (by decide)] at h; exact h)
  f3 := fun h => F.f3 (by rw [getD_ne (by decide)] at h; exact h)
  f4 := fun h => F.f4 (by rw [getD_ne (by decide)] at h; exact h)
  f5 := fun _ => hnew
  f6 := fun h => F.f6 (by rw [getD_ne (by decide)] at h; exact h)
  f7 := fun h => F.f7 (by rw [getD_ne (by decide)] at h; exact h)
  f8 := fun h => by
    rw [getD_ne (by decide)] at h
    obtain ⟨g, c, e, h1, h2, h3, h4⟩ := F.f8 h
    exact ⟨g, c, e, h1, h2, h3, fun h => by rw [getD_ne (by decide)] at h; exact h4 h⟩
theorem Gx.set6 {h : V8} {Ar : Option Addr} {nr cr : Nat} {H : V8} {m : Nat} {Ad : Option Addr} {nd cd : Nat} {A : Option Addr} {n c : Nat} {cur : List Int} {g5 : Nat} {w0 : World} {L : Array Bool} {x8 x27 x28 x29 x30 x31 x32 x33 x34 : Value} {v : Value} {w : World} (F : Gx h Ar nr cr H m Ad nd cd A n c cur g5 w0 L x8 x27 x28 x29 x30 x31 x32 x33 x34 w) (hun : L.getD 6 true = false) (hnew : v = .int .i64 ((m + nd : Nat) : Int)) : Gx h Ar nr cr H m Ad nd cd A n c cur g5 w0 (L.setIfInBounds 6 true) x8 x27 x28 x29 x30 x31 x32 v x34 w where
  bw := F.bw
  hb := F.hb
  hz := F.hz
  h5 := F.h5
  rw' := F.rw'
  k7 := fun h => by rw [getD_ne (by decide)] at h ⊢; exact F.k7 h
  k9 := fun h => by rw [getD_ne (by decide)] at h ⊢; exact F.k9 h
  k91 := fun h => by rw [getD_ne (by decide)] at h ⊢; exact F.k91 h
  f0 := fun h => F.f0 (by rw [getD_ne (by decide)] at h; exact h)
  f1 := fun h => F.f1 (by rw [getD_ne (by decide)] at h; exact h)
  f2 := fun h => F.f2 (by rw [getD_ne (by decide)] at h; exact h)
  f3 := fun h => F.f3 (by rw [getD_ne (by decide)] at h; exact h)
  f4 := fun h => F.f4 (by rw [getD_ne (by decide)] at h; exact h)
  f5 := fun h => F.f5 (by rw [getD_ne (by decide)] at h; exact h)
  f6 := fun _ => hnew
  f7 := fun h => F.f7 (by rw [getD_ne (by decide)] at h; exact h)
  f8 := fun h => by
    rw [getD_ne (by decide)] at h
    obtain ⟨g, c, e, h1, h2, h3, h4⟩ := F.f8 h
    exact ⟨g, c, e, h1, h2, h3, fun h => by rw [getD_ne (by decide)] at h; exact h4 h⟩
theorem Gx.set7 {h : V8} {Ar : Option Addr} {nr cr : Nat} {H : V8} {m : Nat} {Ad : Option Addr} {nd cd : Nat} {A : Option Addr} {n c : Nat} {cur : List Int} {g5 : Nat} {w0 : World} {L : Array Bool} {x8 x27 x28 x29 x30 x31 x32 x33 x34 : Value} {v : Value} {w : World} (F : Gx h Ar nr cr H m Ad nd cd A n c cur g5 w0 L x8 x27 x28 x29 x30 x31 x32 x33 x34 w) (hun : L.getD 7 true = false) (hnew : v = .agg (stC (List.replicate 8 0) x28 ((m + nd : Nat) : Int))) (hdep : L.getD 1 false = true) : Gx h Ar nr cr H m Ad nd cd A n c cur g5 w0 (L.setIfInBounds 7 true) x8 x27 x28 x29 x30 x31 x32 x33 v w where
  bw := F.bw
  hb := F.hb
  hz := F.hz
  h5 := F.h5
  rw' := F.rw'
  k7 := fun _ => by rw [getD_ne (by decide)]; exact hdep
  k9 := fun h => by rw [getD_ne (by decide)] at h ⊢; exact F.k9 h
  k91 := fun h => by rw [getD_ne (by decide)] at h ⊢; exact F.k91 h
  f0 := fun h => F.f0 (by rw [getD_ne (by decide)] at h; exact h)
  f1 := fun h => F.f1 (by rw [getD_ne (by decide)] at h; exact h)
  f2 := fun h => F.f2 (by rw [getD_ne (by decide)] at h; exact h)
  f3 := fun h => F.f3 (by rw [getD_ne (by decide)] at h; exact h)
  f4 := fun h => F.f4 (by rw [getD_ne (by decide)] at h; exact h)
  f5 := fun h => F.f5 (by rw [getD_ne (by decide)] at h; exact h)
  f6 := fun h => F.f6 (by rw [getD_ne (by decide)] at h; exact h)
  f7 := fun _ => hnew
  f8 := fun h => by
    rw [getD_ne (by decide)] at h
    obtain ⟨g, c, e, h1, h2, h3, h4⟩ := F.f8 h
    exact ⟨g, c, e, h1, h2, h3, fun h => by rw [getD_ne (by decide)] at h; exact h4 h⟩
theorem Gx.set8 {h : V8} {Ar : Option Addr} {nr cr : Nat} {H : V8} {m : Nat} {Ad : Option Addr} {nd cd : Nat} {A : Option Addr} {n c : Nat} {cur : List Int} {g5 : Nat} {w0 : World} {L : Array Bool} {x8 x27 x28 x29 x30 x31 x32 x33 x34 : Value} {v : Value} {w : World} (F : Gx h Ar nr cr H m Ad nd cd A n c cur g5 w0 L x8 x27 x28 x29 x30 x31 x32 x33 x34 w) (hun : L.getD 8 true = false) (hnew : ∃ g cs, v = .pointer (some ⟨g, 0, none⟩) ∧ w0.heap.size + 1 < g ∧ w.heap[g]? = some (.cells cs 32 (0, 0)) ∧ cs.size = 10) : Gx h Ar nr cr H m Ad nd cd A n c cur g5 w0 (L.setIfInBounds 8 true) v x27 x28 x29 x30 x31 x32 x33 x34 w where
  bw := F.bw
  hb := F.hb
  hz := F.hz
  h5 := F.h5
  rw' := F.rw'
  k7 := fun h => by rw [getD_ne (by decide)] at h ⊢; exact F.k7 h
  k9 := fun _ => getD_self hun
  k91 := fun h => by rw [getD_ne (by decide)] at h ⊢; exact F.k91 h
  f0 := fun h => F.f0 (by rw [getD_ne (by decide)] at h; exact h)
  f1 := fun h => F.f1 (by rw [getD_ne (by decide)] at h; exact h)
  f2 := fun h => F.f2 (by rw [getD_ne (by decide)] at h; exact h)
  f3 := fun h => F.f3 (by rw [getD_ne (by decide)] at h; exact h)
  f4 := fun h => F.f4 (by rw [getD_ne (by decide)] at h; exact h)
  f5 := fun h => F.f5 (by rw [getD_ne (by decide)] at h; exact h)
  f6 := fun h => F.f6 (by rw [getD_ne (by decide)] at h; exact h)
  f7 := fun h => F.f7 (by rw [getD_ne (by decide)] at h; exact h)
  f8 := fun _ => by
    obtain ⟨g, c, e, h1, h2, h3⟩ := hnew
    exact ⟨g, c, e, h1, h2, h3, fun h => by rw [getD_ne (by decide)] at h; exact (getD_no hun (F.k9 h)).elim⟩
theorem Gx.set9 {h : V8} {Ar : Option Addr} {nr cr : Nat} {H : V8} {m : Nat} {Ad : Option Addr} {nd cd : Nat} {A : Option Addr} {n c : Nat} {cur : List Int} {g5 : Nat} {w0 : World} {L : Array Bool} {x8 x27 x28 x29 x30 x31 x32 x33 x34 : Value} {w w' : World} {g : Nat} {cs : Array Value} (F : Gx h Ar nr cr H m Ad nd cd A n c cur g5 w0 L x8 x27 x28 x29 x30 x31 x32 x33 x34 w) (hun : L.getD 9 true = false) (hdep : L.getD 8 false = true) (hdep1 : L.getD 1 false = true) (hx : x8 = .pointer (some ⟨g, 0, none⟩)) (hg1 : w0.heap.size + 1 < g) (hg : w.heap[g]? = some (.cells cs 32 (0, 0))) (hg' : w'.heap[g]? = some (.cells (stC (List.replicate 8 0) x28 ((m + nd : Nat) : Int)) 32 (0, 0))) (hk : ∀ (k : Nat), k ≠ g → w'.heap[k]? = w.heap[k]?) (hB : Below w0.heap.size w w') : Gx h Ar nr cr H m Ad nd cd A n c cur g5 w0 (L.setIfInBounds 9 true) x8 x27 x28 x29 x30 x31 x32 x33 x34 w' := by
  have ho : ∀ (k : Nat) (q : TypeId) (cs : Array Value), q ≠ 32 → w.heap[k]? = some (.cells cs q (0, 0)) → w'.heap[k]? = some (.cells cs q (0, 0)) := fun k q cs hq h => by
    rw [hk k (fun e => ?_)]
    · exact h
    · subst e
      rw [hg] at h
      injection h with h
      injection h with h1 h2
      exact hq h2.symm
  exact {
    bw := F.bw.trans hB
    hb := (hk _ (by omega)).trans F.hb
    hz := (hk _ (by omega)).trans F.hz
    h5 := ho _ _ _ (by decide) F.h5
    rw' := F.rw'.move (fun _ _ h => ho _ _ _ (by decide) h)
    k7 := fun h => by rw [getD_ne (by decide)] at h ⊢; exact F.k7 h
    k9 := fun _ => by rw [getD_ne (by decide)]; exact hdep
    k91 := fun _ => by rw [getD_ne (by decide)]; exact hdep1
    f1 := fun h => by
      obtain ⟨A, c, e, h1⟩ := F.f1 (by rw [getD_ne (by decide)] at h; exact h)
      exact ⟨A, c, e, h1.move (fun _ _ h => ho _ _ _ (by decide) h)⟩
    f0 := fun h => F.f0 (by rw [getD_ne (by decide)] at h; exact h)
    f2 := fun h => F.f2 (by rw [getD_ne (by decide)] at h; exact h)
    f3 := fun h => F.f3 (by rw [getD_ne (by decide)] at h; exact h)
    f4 := fun h => F.f4 (by rw [getD_ne (by decide)] at h; exact h)
    f5 := fun h => F.f5 (by rw [getD_ne (by decide)] at h; exact h)
    f6 := fun h => F.f6 (by rw [getD_ne (by decide)] at h; exact h)
    f7 := fun h => F.f7 (by rw [getD_ne (by decide)] at h; exact h)
    f8 := fun _ => ⟨g, _, hx, hg1, hg', by rw [stC_size]; simp, fun _ => rfl⟩ }
end Go.Proofs.Ytgfhbkhbnmgogaa.GFnExactHmac.Hand
