import Derived.Test.YtgfhbkhbnmgogaaGFnExactHmacx1
import Derived.Test.YtgfhbkhbnmgogaaGFnExactHmacx2
import Derived.Deep.WholeRow
import Derived.Deep.MidRow
import Derived.BigRegion
namespace Go.Proofs.Ytgfhbkhbnmgogaa.GFnExactHmac.Hand
open Go.RowKit Go.Proofs.YtgfhbkhbnmgogaaW.PrintWords Go.Proofs.YtgfhbkhbnmgogaaW.PrintLast Go.Proofs.YtgfhbkhbnmgogaaW.PrintMore
set_option linter.unusedVariables false
set_option linter.unusedSimpArgs false
theorem cell_at {w : World} {g : Nat} {cur : Array Value} {t : TypeId} (hg : w.heap[g]? = some (.cells cur t (0, 0))) (o : Nat) : w.cell? ⟨g, o, none⟩ = cur[o]? := by
  simp [World.cell?, hg]
theorem free_at {w : World} {g : Nat} {cur : Array Value} {t : TypeId} (hg : w.heap[g]? = some (.cells cur t (0, 0))) (o : Nat) : w.frozen? ⟨g, o, none⟩ = false := by
  simp [World.frozen?, hg]
theorem heap_set {w : World} {g : Nat} {cur : Array Value} {t : TypeId} (h : w.heap[g]? = some (.cells cur t (0, 0))) (o : Nat) (v : Value) : (w.setCell ⟨g, o, none⟩ v).heap[g]? = some (.cells (cur.setIfInBounds o v) t (0, 0)) := by
  simp only [World.setCell, Array.getElem?_modify, if_true, h]
  rfl
theorem heap_other (w : World) (g o : Nat) (v : Value) (k : Nat) (hk : k ≠ g) : (w.setCell ⟨g, o, none⟩ v).heap[k]? = w.heap[k]? := Below.heap_setCell w _ v k hk
theorem size_alloc (w : World) (o : Obj) : (w.alloc o).heap.size = w.heap.size + 1 := Array.size_push o
theorem size_set (w : World) (a : Addr) (v : Value) : (w.setCell a v).heap.size = w.heap.size := by simp [World.setCell]
theorem alloc_at {w : World} {k : Nat} (h : w.heap.size = k) (o : Obj) : (w.alloc o).heap[k]? = some o := by
  subst h
  exact heap_alloc_last w o
/-! ### Arrays: a result that lies in a cell -/
theorem results_cell {fn : Func} {p : Tmp} {ty : TypeId} (h : fn.results = #[.cell p ty]) (tmps : Array Value) (P : Program) (w : World) :
    (results fn tmps).run P w = ((asAddr (tmps.getD p undef)).run P w).andThen fun a w₁ => (loadVar ty a).run P w₁ := by
  simp only [results, h]
  simp [Sem.run_bind, Result.andThen]
theorem load_row {P : Program} {w : World} {ty : TypeId} {g : Nat} {c : Array Value} {d : TypeDesc} (hu : P.underlying ty = some d) (hd : d.isRow = true) (hi : (P.info? ty).map (·.size) = some c.size) (hg : w.heap[g]? = some (.cells c ty (0, 0))) : (loadVar ty ⟨g, 0, none⟩).run P w = .ok (.agg c) w := by
  have hr : w.rangeAt g 0 c.toList := fun j v hv => by
    rw [Nat.zero_add, cell_at hg j]
    simpa using hv
  simpa using run_loadVar_mid (P := P) w g 0 ty c.toList d hr hu hd (by simpa using hi)
theorem ret_cell {P : Program} {fn : Func} {p : Tmp} {ty : TypeId} {R : Ending → World → Prop} {a : Act} {w : World} {g : Nat} {c : Array Value} {d : TypeDesc} (h : fn.results = #[.cell p ty]) (hu : P.underlying ty = some d) (hr : d.isRow = true) (hi : (P.info? ty).map (·.size) = some c.size) (hp : a.tmps.getD p undef = .pointer (some ⟨g, 0, none⟩)) (hg : w.heap[g]? = some (.cells c ty (0, 0))) (hd : a.defers = []) (hR : R (.returned (.agg c)) w) : bodyPost P fn R .ret a w := by
  refine bodyPost_ret ?_ hd hR
  rw [results_cell h, hp]
  simpa [asAddr, Result.andThen] using load_row hu hr hi hg
/-- A whole array goes into the block that was made last. -/
theorem store_new {P : Program} {ops : Array Oper} {rest : List Oper} {o : Oper} {a : Act} {Q : Exit → Act → World → Prop} {w : World} {c c' : Array Value} {t : TypeId} {p : Tmp} {y : Operand} (hgd : o.guard = none) (ho : o.op = .store t (.tmp p) y) (hN : o.dst = none) (hx : a.eval (.tmp p) = .pointer (some ⟨w.heap.size, 0, none⟩)) (hy : a.eval y = .agg c') (hi : (P.info? t).map (·.size) = some c'.size) (hc : c.size = c'.size) (h1 : c'.all (·.oneCell') = true) (h : wpList P ops Q rest a (w.alloc (.cells c' t))) : wpList P ops Q (o :: rest) a (w.alloc (.cells c t)) := by
  refine wpList_plain hgd fun K hK => ?_
  unfold Oper.wp execOp
  have hr := run_storeVar_new (P := P) w t c c' hi hc h1
  simp only [ho, hx, hy, Instr.storeAt, Instr.sureAddr, Sem.run_bind, Sem.run_pure, Result.andThen_ok, hr]
  show K (a.put o.dst undef) _
  rw [hN]
  exact hK _ _ h
/-- A whole array goes into a block of its own. -/
theorem store_row {P : Program} {ops : Array Oper} {rest : List Oper} {o : Oper} {a : Act} {Q : Exit → Act → World → Prop} {w : World} {c c' : Array Value} {t : TypeId} {p : Tmp} {y : Operand} {g : Nat} (hgd : o.guard = none) (ho : o.op = .store t (.tmp p) y) (hN : o.dst = none) (hx : a.eval (.tmp p) = .pointer (some ⟨g, 0, none⟩)) (hy : a.eval y = .agg c') (hg : w.heap[g]? = some (.cells c t (0, 0))) (hi : (P.info? t).map (·.size) = some c'.size) (hc : c.size = c'.size) (h1 : c'.all (·.oneCell') = true) (h : ∀ w', w'.heap[g]? = some (.cells c' t (0, 0)) → (∀ k, k ≠ g → w'.heap[k]? = w.heap[k]?) → (∀ B, B ≤ g → Below B w w') → wpList P ops Q rest a w') : wpList P ops Q (o :: rest) a w := by
  refine wpList_plain hgd fun K hK => ?_
  unfold Oper.wp execOp
  have hr := run_storeVar_row (P := P) w g t t c c' hg hi hc h1
  simp only [ho, hx, hy, Instr.storeAt, Instr.sureAddr, Sem.run_bind, Sem.run_pure, Result.andThen_ok, hr]
  show K (a.put o.dst undef) _
  rw [hN]
  have hk : ∀ k, k ≠ g → (w.setRow g c').heap[k]? = w.heap[k]? := fun k hk => by
    simp only [World.setRow, Array.getElem?_modify]
    rw [if_neg (fun e => hk e.symm)]
  refine hK _ _ (h _ ?_ hk fun B hB => ⟨rfl, rfl, rfl, by simp [World.setRow], fun k hk' => hk k (by omega)⟩)
  simp only [World.setRow, Array.getElem?_modify, if_true, hg]
  rfl
/-- A whole array is read. -/
theorem load_ev {P : Program} {ops : Array Oper} {rest : List Oper} {o : Oper} {a : Act} {Q : Exit → Act → World → Prop} {w : World} {c : Array Value} {t : TypeId} {x : Operand} {g : Nat} {d : TypeDesc} (hgd : o.guard = none) (ho : o.op = .load t x) (hx : a.eval x = .pointer (some ⟨g, 0, none⟩)) (hu : P.underlying t = some d) (hd : d.isRow = true) (hg : w.heap[g]? = some (.cells c t (0, 0))) (hi : (P.info? t).map (·.size) = some c.size) (h : wpList P ops Q rest (a.put o.dst (.agg c)) w) : wpList P ops Q (o :: rest) a w := by
  refine Kd.event_run hgd ?_ h
  unfold execOp
  simp only [ho, hx, Instr.loadAt, Instr.sureAddr, Sem.run_bind, Sem.run_pure, Result.andThen_ok, load_row hu hd hi hg]
/-! ### Words -/
theorem u32_wrap (x : Int) : IntKind.u32.wrap x = x % 4294967296 := rfl
theorem u32_id {x : Int} (h0 : 0 ≤ x) (h1 : x < 4294967296) : IntKind.u32.wrap x = x := by rw [u32_wrap]; omega
structure V8 where
  a : Int
  b : Int
  c : Int
  d : Int
  e : Int
  f : Int
  g : Int
  h : Int
def V8.u (v : V8) : Array Value := #[.int .u32 v.a, .int .u32 v.b, .int .u32 v.c, .int .u32 v.d, .int .u32 v.e, .int .u32 v.f, .int .u32 v.g, .int .u32 v.h]
def V8.i (v : V8) : Array Value := #[.int .i64 v.a, .int .i64 v.b, .int .i64 v.c, .int .i64 v.d, .int .i64 v.e, .int .i64 v.f, .int .i64 v.g, .int .i64 v.h]
def V8.l (v : V8) : List Int := [v.a, v.b, v.c, v.d, v.e, v.f, v.g, v.h]
def wrapV (v : V8) : V8 := ⟨v.a % 4294967296, v.b % 4294967296, v.c % 4294967296, v.d % 4294967296, v.e % 4294967296, v.f % 4294967296, v.g % 4294967296, v.h % 4294967296⟩
def is (l : List Int) : Array Value := (l.map (Value.int .i64)).toArray
theorem is_at (l : List Int) (i : Nat) (h : i < l.length) : (is l)[i]? = some (.int .i64 (l.getD i 0)) := by
  simp [is, h]
theorem is_set (l : List Int) (i : Nat) (x : Int) : (is l).setIfInBounds i (.int .i64 x) = is (l.set i x) := by
  apply Array.ext'
  simp [is, List.map_set]
theorem V8.l_length (v : V8) : v.l.length = 8 := rfl
def us (l : List Int) : Array Value := (l.map (Value.int .u32)).toArray
theorem us_size (l : List Int) : (us l).size = l.length := by simp [us]
theorem us_at (l : List Int) (i : Nat) (h : i < l.length) : (us l)[i]? = some (.int .u32 (l.getD i 0)) := by
  simp [us, h]
theorem us_set (l : List Int) (i : Nat) (x : Int) : (us l).setIfInBounds i (.int .u32 x) = us (l.set i x) := by
  apply Array.ext'
  simp [us, List.map_set]
theorem us_one (l : List Int) : (us l).all (·.oneCell') = true := by
  rw [Array.all_eq_true]
  intro i hi
  simp [us, Value.oneCell']
def Z64 : Array Value := us (List.replicate 64 0)
theorem zero69 (w : World) : (zeroValue 69).run Try.prog w = .ok (.agg Z64) w := (zero_of_info (n := 64) (by kernel_rfl)).1 w
theorem build69 (f : Operand → Value) (w : World) (o : Oper) (ho : o.op = .build 69 #[]) : (execOp f o).run Try.prog w = .ok (.value (.agg Z64)) w := by
  unfold execOp
  rw [ho]
  simp only [Instr.build, Sem.run_bind, zero69, Result.andThen_ok, run_underlying Try.underlying69, Try.sizeOf66, Instr.fill, Value.cells, Array.map_empty]
  rfl
theorem alloc69 (f : Operand → Value) (w : World) (o : Oper) (ho : o.op = .alloc 69) : (execOp f o).run Try.prog w = .ok (.value (.pointer (some ⟨w.heap.size, 0, none⟩))) (w.alloc (.cells Z64 69)) := by
  unfold execOp
  rw [ho]
  simp only [Instr.alloc, Sem.run_bind, zero69, Result.andThen_ok]
  rfl
section
variable {ops : Array Oper} {rest : List Oper} {o : Oper} {a : Act} {Q : Exit → Act → World → Prop} {w : World}
theorem ev_build69 (hgd : o.guard = none) (ho : o.op = .build 69 #[]) (h : wpList Try.prog ops Q rest (a.put o.dst (.agg Z64)) w) : wpList Try.prog ops Q (o :: rest) a w := Kd.event_run hgd (build69 _ _ _ ho) h
theorem ev_alloc69 (hgd : o.guard = none) (ho : o.op = .alloc 69) (h : wpList Try.prog ops Q rest (a.put o.dst (.pointer (some ⟨w.heap.size, 0, none⟩))) (w.alloc (.cells Z64 69))) : wpList Try.prog ops Q (o :: rest) a w := Kd.event_run hgd (alloc69 _ _ _ ho) h
/-- A whole array of 64 words goes into the block that was made last. -/
theorem ev_store69 {c' : Array Value} {l : List Int} {p : Tmp} {y : Operand} (hgd : o.guard = none) (ho : o.op = .store 69 (.tmp p) y) (hN : o.dst = none) (hx : a.eval (.tmp p) = .pointer (some ⟨w.heap.size, 0, none⟩)) (hy : a.eval y = .agg c') (hc : c' = us l) (hl : l.length = 64) (h : wpList Try.prog ops Q rest a (w.alloc (.cells c' 69))) : wpList Try.prog ops Q (o :: rest) a (w.alloc (.cells Z64 69)) := by
  subst hc
  exact store_new hgd ho hN hx hy (by rw [us_size, hl]; kernel_rfl) (by unfold Z64; rw [us_size, us_size, hl]; rfl) (us_one l) h
end
def tn (x n : Int) : Int := Go.bits .or .u32 (shr .u32 x n) (shl .u32 x (wrap64 (32 - n)))
theorem spec_tn (x n : Int) (h0 : 0 ≤ n) (h1 : n ≤ 32) : spec_l5Turn.f x n = some (tn x n) := by
  unfold spec_l5Turn.f tn
  rw [if_pos h0, if_pos (by rw [Base.w64] <;> omega)]
def ss0 (x : Int) : Int := Go.bits .xor .u32 (Go.bits .xor .u32 (tn x 7) (tn x 18)) (x / 8)
def ss1 (y : Int) : Int := Go.bits .xor .u32 (Go.bits .xor .u32 (tn y 17) (tn y 19)) (y / 1024)
def word (b : List Int) (t : Nat) : Int :=
  Go.bits .or .u32 (Go.bits .or .u32 (Go.bits .or .u32 (IntKind.u32.wrap (IntKind.u32.wrap (rd b (4 * t)) * 16777216)) (IntKind.u32.wrap (IntKind.u32.wrap (rd b (4 * t + 1)) * 65536))) (IntKind.u32.wrap (IntKind.u32.wrap (rd b (4 * t + 2)) * 256))) (IntKind.u32.wrap (rd b (4 * t + 3)))
def mix (l : List Int) (t : Nat) : Int :=
  (ss1 (l.getD (t - 2) 0) + l.getD (t - 7) 0 + ss0 (l.getD (t - 15) 0) + l.getD (t - 16) 0) % 4294967296
def wl (b : List Int) : Nat → List Int
  | 0 => List.replicate 64 0
  | t + 1 => (wl b t).set t (if t < 16 then word b t else mix (wl b t) t)
theorem wl_length (b : List Int) : ∀ t, (wl b t).length = 64
  | 0 => by simp [wl]
  | t + 1 => by rw [wl, List.length_set]; exact wl_length b t
theorem wl_lo (b : List Int) (t : Nat) (h : t < 16) : wl b (t + 1) = (wl b t).set t (word b t) := by rw [wl, if_pos h]
theorem wl_hi (b : List Int) (t : Nat) (h : ¬ t < 16) : wl b (t + 1) = (wl b t).set t (mix (wl b t) t) := by rw [wl, if_neg h]
def keysL : List Int := [1116352408, 1899447441, 3049323471, 3921009573, 961987163, 1508970993, 2453635748, 2870763221, 3624381080, 310598401, 607225278, 1426881987, 1925078388, 2162078206, 2614888103, 3248222580, 3835390401, 4022224774, 264347078, 604807628, 770255983, 1249150122, 1555081692, 1996064986, 2554220882, 2821834349, 2952996808, 3210313671, 3336571891, 3584528711, 113926993, 338241895, 666307205, 773529912, 1294757372, 1396182291, 1695183700, 1986661051, 2177026350, 2456956037, 2730485921, 2820302411, 3259730800, 3345764771, 3516065817, 3600352804, 4094571909, 275423344, 430227734, 506948616, 659060556, 883997877, 958139571, 1322822218, 1537002063, 1747873779, 1955562222, 2024104815, 2227730452, 2361852424, 2428436474, 2756734187, 3204031479, 3329325298]
def S1 (v : V8) (k w : Int) : Int :=
  v.h + Go.bits .xor .u32 (Go.bits .xor .u32 (tn v.e 6) (tn v.e 11)) (tn v.e 25) + Go.bits .xor .u32 (Go.bits .and .u32 v.e v.f) (Go.bits .and .u32 (Go.bits .xor .u32 IntKind.u32.max v.e) v.g) + k + w
def S2 (v : V8) : Int :=
  Go.bits .xor .u32 (Go.bits .xor .u32 (tn v.a 2) (tn v.a 13)) (tn v.a 22) + Go.bits .xor .u32 (Go.bits .xor .u32 (Go.bits .and .u32 v.a v.b) (Go.bits .and .u32 v.a v.c)) (Go.bits .and .u32 v.b v.c)
def rnd (v : V8) (k w : Int) : V8 := ⟨(S1 v k w + S2 v) % 4294967296, v.a, v.b, v.c, (v.d + S1 v k w) % 4294967296, v.e, v.f, v.g⟩
/-- A list that is filled from its head on. -/
def fillL (f : Nat → Int) (m : Nat) : Nat → List Int
  | 0 => List.replicate m 0
  | t + 1 => (fillL f m t).set t (f t)
theorem fillL_length (f : Nat → Int) (m : Nat) : ∀ t, (fillL f m t).length = m
  | 0 => by simp [fillL]
  | t + 1 => by rw [fillL, List.length_set]; exact fillL_length f m t
def rounds (b : List Int) (h : V8) : Nat → V8
  | 0 => h
  | t + 1 => rnd (rounds b h t) (keysL.getD t 0) ((wl b 64).getD t 0)
def addV (h v : V8) : V8 := ⟨(h.a + v.a) % 4294967296, (h.b + v.b) % 4294967296, (h.c + v.c) % 4294967296, (h.d + v.d) % 4294967296, (h.e + v.e) % 4294967296, (h.f + v.f) % 4294967296, (h.g + v.g) % 4294967296, (h.h + v.h) % 4294967296⟩
def blk (h : V8) (b : List Int) : V8 := addV h (rounds b h 64)
def startV : V8 := ⟨1779033703, 3144134277, 1013904242, 2773480762, 1359893119, 2600822924, 528734635, 1541459225⟩
end Go.Proofs.Ytgfhbkhbnmgogaa.GFnExactHmac.Hand
