import Derived.Test.YtmeobalddjembaaGFnStrictx0
import Derived.Laws.CopyOwn
import Derived.Lib.SliceRun
import Derived.Deep.RegionHeld3
namespace Go.Proofs.Ytmeobalddjembaa.GFnStrict.Hand
open Go.RowKit Go.Proofs.YtmeobalddjembaaW.PrintWords Go.Proofs.YtmeobalddjembaaW.PrintLast Go.Proofs.YtmeobalddjembaaW.PrintMore
set_option linter.unusedVariables false
set_option linter.unusedSimpArgs false
/-! ### the place behind an item, as a plain function -/
def stepsN (f : Nat → Option Nat) : Nat → Nat → Option Nat
  | 0, n => some n
  | c + 1, n => (f n).bind (stepsN f c)
def sk (l : List S52) : Nat → Nat → Option Nat
  | 0, _ => none
  | g + 1, i => if i < l.length then stepsN (sk l g) ((rd_T52 l (i : Int)).f2).toNat (i + 1) else none
theorem stepsN_le {f : Nat → Option Nat} {N : Nat} (h : ∀ i e, f i = some e → i < e ∧ e ≤ N) : ∀ (c n e : Nat), n ≤ N → stepsN f c n = some e → n ≤ e ∧ e ≤ N
  | 0, n, e, hn, he => by
    obtain rfl : n = e := Option.some.inj he
    omega
  | c + 1, n, e, hn, he => by
    unfold stepsN at he
    cases hf : f n with
    | none => rw [hf] at he; cases he
    | some m =>
      rw [hf] at he
      have := h _ _ hf
      have := stepsN_le h c m e (by omega) he
      omega
theorem sk_le (l : List S52) : ∀ (g i e : Nat), sk l g i = some e → i < e ∧ e ≤ l.length
  | 0, _, _, he => by cases he
  | g + 1, i, e, he => by
    unfold sk at he
    by_cases c : i < l.length
    · rw [if_pos c] at he
      have := stepsN_le (sk_le l g) _ _ _ (by omega) he
      omega
    · rw [if_neg c] at he
      cases he
def kidsN (f : Nat → Option Nat) : Nat → Nat → List Nat
  | 0, _ => []
  | c + 1, n => n :: kidsN f c ((f n).getD 0)
/-! ### nodes: values that hold an item of a list, by its place; the bodies are those of the list (read in w0) -/
def kN (l : List S52) (w0 : World) : Nat → Kd Nat
  | 0 => Kd.iso (Kd.pair (Kd.int .i64) (Kd.pair (Kd.fixed (Kd.slice 5 (Kd.int .u8)) w0) (Kd.slice 63 (Kd.int .i64)))) (fun _ => ((0 : Int), ([] : List Int), ([] : List Int)))
  | g + 1 => Kd.iso (Kd.pair (Kd.int .i64) (Kd.pair (Kd.fixed (Kd.slice 5 (Kd.int .u8)) w0) (Kd.slice 63 (kN l w0 g)))) (fun i => ((rd_T52 l (i : Int)).f0, (rd_T52 l (i : Int)).f1, kidsN (sk l g) ((rd_T52 l (i : Int)).f2).toNat (i + 1)))
theorem kN_sz (l : List S52) (w0 : World) : ∀ g, (kN l w0 g).sz = 3
  | 0 => rfl
  | g + 1 => rfl
theorem kN_mk (l : List S52) (w0 w : World) (g base : Nat) (ok : Nat → Prop) (i : Nat) {A1 : Option Addr} {c1 : Nat} {kv : Value} (l1 : (rd_T52 l (i : Int)).f1.length ≤ c1) (g1 : (Kd.int .u8).C w0 A1 (rd_T52 l (i : Int)).f1.length (rd_T52 l (i : Int)).f1)
    (hk : (kN l w0 g).R 63 w base ok kv (kidsN (sk l g) ((rd_T52 l (i : Int)).f2).toNat (i + 1))) :
    (kN l w0 (g + 1)).M w base ok i [.int .i64 (rd_T52 l (i : Int)).f0, .slice A1 (rd_T52 l (i : Int)).f1.length c1, kv] :=
  ⟨[.int .i64 (rd_T52 l (i : Int)).f0], [.slice A1 (rd_T52 l (i : Int)).f1.length c1, kv], rfl, rfl, ⟨[.slice A1 (rd_T52 l (i : Int)).f1.length c1], [kv], rfl, ⟨A1, c1, rfl, l1, g1⟩, ⟨kv, rfl, hk⟩⟩⟩
theorem kN_open {l : List S52} {w0 w : World} {g base : Nat} {ok : Nat → Prop} {i : Nat} {cs : List Value} (h : (kN l w0 (g + 1)).M w base ok i cs) :
    ∃ A1 c1 kv, cs = [.int .i64 (rd_T52 l (i : Int)).f0, .slice A1 (rd_T52 l (i : Int)).f1.length c1, kv] ∧ (rd_T52 l (i : Int)).f1.length ≤ c1 ∧ (Kd.int .u8).C w0 A1 (rd_T52 l (i : Int)).f1.length (rd_T52 l (i : Int)).f1 ∧ (kN l w0 g).R 63 w base ok kv (kidsN (sk l g) ((rd_T52 l (i : Int)).f2).toNat (i + 1)) := by
  obtain ⟨q0, q1, rfl, rfl, ⟨q2, q3, rfl, ⟨A1, c1, rfl, l1, g1⟩, ⟨kv, rfl, hk⟩⟩⟩ := h
  exact ⟨A1, c1, kv, rfl, l1, g1, hk⟩
theorem cell_al {w : World} {p : Addr} {v : Value} (o : Obj) (h : w.cell? p = some v) : (w.alloc o).cell? p = some v := (World.cell?_alloc_some w p o (by rw [h]; rfl)).trans h
theorem blk_al {w : World} {k : Nat} {x : Obj} (o : Obj) (h : w.heap[k]? = some x) : (w.alloc o).heap[k]? = some x := by
  have hlt : k < w.heap.size := (Array.getElem?_eq_some_iff.1 h).1
  show (w.heap.push o)[k]? = some x
  rw [Array.getElem?_push, if_neg (by omega)]
  exact h
theorem blk_al_new (w : World) (o : Obj) : (w.alloc o).heap[w.heap.size]? = some o := by
  show (w.heap.push o)[w.heap.size]? = some o
  rw [Array.getElem?_push, if_pos rfl]
theorem size_al (w : World) (o : Obj) : (w.alloc o).heap.size = w.heap.size + 1 := by
  show (w.heap.push o).size = _
  simp
theorem info63 : (Try.prog.info? 63).map (fun i => (i.zero, i.size, i.bytes)) = some (some (.agg #[.int .i64 0, .slice none 0 0, .slice none 0 0]), 3, 56) := by kernel_rfl
theorem heap_set {w : World} {g : Nat} {cur : Array Value} {t : TypeId} (h : w.heap[g]? = some (.cells cur t (0, 0))) (o : Nat) (v : Value) : (w.setCell ⟨g, o, none⟩ v).heap[g]? = some (.cells (cur.setIfInBounds o v) t (0, 0)) := by
  simp only [World.setCell, Array.getElem?_modify, if_true, h]
  rfl
theorem heap_other (w : World) (g o : Nat) (v : Value) (k : Nat) (hk : k ≠ g) : (w.setCell ⟨g, o, none⟩ v).heap[k]? = w.heap[k]? := Below.heap_setCell w _ v k hk
theorem cell_at {w : World} {g : Nat} {cur : Array Value} {t : TypeId} (hg : w.heap[g]? = some (.cells cur t (0, 0))) (o : Nat) : w.cell? ⟨g, o, none⟩ = cur[o]? := by
  simp [World.cell?, hg]
theorem free_at {w : World} {g : Nat} {cur : Array Value} {t : TypeId} (hg : w.heap[g]? = some (.cells cur t (0, 0))) (o : Nat) : w.frozen? ⟨g, o, none⟩ = false := by
  simp [World.frozen?, hg]
structure NInv (l : List S52) (w0 w wr : World) (g : Nat) (tag : Int) (bv kv : Value) (acc : List Nat) : Prop where
  below : Below w.heap.size w wr
  b4 : wr.heap[w.heap.size]? = some (.cells #[.int .i64 0, .slice none 0 0, .slice none 0 0] 63 (0, 0))
  b6 : wr.heap[w.heap.size + 1]? = some (.cells #[.int .i64 tag, bv, kv] 63 (0, 0))
  row : (kN l w0 g).R 63 wr w.heap.size (fun k => k ≠ w.heap.size ∧ k ≠ w.heap.size + 1) kv acc
set_option maxHeartbeats 2000000 in
set_option maxRecDepth 100000 in
theorem nested_calls (l : List S52) (A0 : Option Addr) (c0 : Nat) (w0 : World) (hr0 : Kd.C k52 w0 A0 l.length l) (hc0 : l.length ≤ c0) (hm : l.length ≤ 1000) (hk : ∀ j : Nat, j < l.length → 0 ≤ (rd_T52 l (j : Int)).f2 ∧ (rd_T52 l (j : Int)).f2 ≤ 300) :
    ∀ (g i e : Nat) (w : World), Below w0.heap.size w0 w → sk l g i = some e → Calls Try.prog 50 #[.slice A0 l.length c0, .int .i64 (i : Int)] w fun ex w' =>
      ∃ (Av : Option Addr) (mv cv : Nat) (Ak : Option Addr) (mk ck : Nat), ex = .returned (.tuple #[.agg #[.int .i64 (rd_T52 l (i : Int)).f0, .slice Av mv cv, .slice Ak mk ck], .int .i64 (e : Int)]) ∧ (kN l w0 g).M w' w.heap.size (fun _ => True) i [.int .i64 (rd_T52 l (i : Int)).f0, .slice Av mv cv, .slice Ak mk ck] ∧ Below w.heap.size w w' := by
  intro g
  induction g with
  | zero =>
    intro i e w _ h
    cases h
  | succ g ih =>
    intro i e w hB h
    have hle := sk_le l _ _ _ h
    have hi : i < l.length := by omega
    unfold sk at h
    rw [if_pos hi] at h
    obtain ⟨ad, A1, c1, rfl, h0, h1, h2, hl1, g1⟩ := at_T52 hr0 (i : Int) (by omega) (by omega)
    replace h0 := pw_cell_below hB h0
    replace h1 := pw_cell_below hB h1
    replace h2 := pw_cell_below hB h2
    have hki := hk i hi
    obtain ⟨cnt, hcnt⟩ : ∃ cnt : Nat, (rd_T52 l (i : Int)).f2 = (cnt : Int) := ⟨_, (Int.toNat_of_nonneg hki.1).symm⟩
    rw [hcnt] at h h2 hki
    have G1 := Aside0.mk g1
    have GMK := Aside0.mk (fun (w : World) (base : Nat) (ok : Nat → Prop) (kv : Value) => kN_mk l w0 w g base ok i (kv := kv) hl1 g1)
    have HH := Aside0.mk h
    have HB := Aside0.mk hB
    have HC := Aside0.mk hr0
    have HK := Aside0.mk hk
    have IH := Aside0.mk ih
    have HCNT := Aside0.mk hcnt
    clear hr0 hk ih h hB g1 hcnt
    obtain ⟨tag, ht⟩ : ∃ tag, (rd_T52 l (i : Int)).f0 = tag := ⟨_, rfl⟩
    obtain ⟨bl, hbl⟩ : ∃ bl, (rd_T52 l (i : Int)).f1.length = bl := ⟨_, rfl⟩
    have HT := Aside0.mk ht
    have HBL := Aside0.mk hbl
    rw [ht] at h0
    rw [hbl] at h1 hl1
    rw [ht]
    clear ht hbl
    have hu := Try.underlying63
    rw [Int.toNat_natCast] at h0 h1 h2
    have a0 := cell_al (.cells #[Value.int IntKind.i64 0, Value.slice none 0 0, Value.slice none 0 0] 63) h0
    have a1 := cell_al (.cells #[Value.int IntKind.i64 0, Value.slice none 0 0, Value.slice none 0 0] 63) h1
    have b0 := cell_al (.cells #[Value.int IntKind.i64 0, Value.slice none 0 0, Value.slice none 0 0] 63) a0
    have b1 := cell_al (.cells #[Value.int IntKind.i64 0, Value.slice none 0 0, Value.slice none 0 0] 63) a1
    have c2 := cell_al (.cells #[Value.int IntKind.i64 tag, Value.slice A1 bl c1, Value.slice none 0 0] 63) (cell_al (.cells #[Value.int IntKind.i64 0, Value.slice none 0 0, Value.slice none 0 0] 63) h2)
    go_enter Try.func50, Try.ntmps50
    go_wp2
    go_region
    go_upto_region 3 with (fail)
    clear a0 a1 b0 b1 h0 h1
    have p0 : (0 : Int) ≤ (i : Int) := by omega
    go_wp2
    go_loopg [7, 27] cnt (fun gk v7 v27 wr => ∃ (c n : Nat) (acc : List Nat) (kv : Value), c + gk = cnt ∧ v27 = .int .i64 (c : Int) ∧ v7 = .int .i64 (n : Int) ∧ n ≤ 1000 ∧ acc.length = c ∧ Aside0 (stepsN (sk l g) gk n = some e) ∧ Aside0 (acc ++ kidsN (sk l g) gk n = kidsN (sk l g) cnt (i + 1)) ∧ Aside0 (NInv l w0 w wr g tag (.slice A1 bl c1) kv acc))
    case atStart => 
      clear c2 h2
      refine ⟨0, i + 1, [], .slice none 0 0, by omega, rfl, rfl, by omega, rfl, ⟨by simpa using HH.out⟩, ⟨rfl⟩, ⟨?_, ?_, ?_, ?_⟩⟩
      · exact below_drew (below_alloc (below_alloc (Below.refl _ _) _) _)
      · exact blk_al _ (blk_al_new _ _)
      · have := blk_al_new (w.alloc (Obj.cells #[Value.int IntKind.i64 0, Value.slice none 0 0, Value.slice none 0 0] 63)) (Obj.cells #[Value.int IntKind.i64 tag, Value.slice A1 bl c1, Value.slice none 0 0] 63)
        rw [size_al] at this
        exact this
      · exact Kd.R_nil _ _ _ _ _
    case round =>
      clear c2 h2
      obtain ⟨c, n, acc, kv, hc, rfl, rfl, hn, hacc, HS, HK2, HI⟩ := hrel
      by_cases hlt : (c : Int) < (cnt : Int)
      · obtain ⟨gk, rfl⟩ : ∃ q, gk = q + 1 := ⟨gk - 1, by omega⟩
        obtain ⟨m, hs, hS2⟩ : ∃ m, sk l g n = some m ∧ stepsN (sk l g) gk m = some e := by
          have := HS.out
          unfold stepsN at this
          cases hf : sk l g n with
          | none => rw [hf] at this; cases this
          | some m => rw [hf] at this; exact ⟨m, rfl, this⟩
        have hle2 := sk_le l _ _ _ hs
        have hB1 : Below w0.heap.size w0 (wr.alloc (.cells #[.int .i64 0, .slice none 0 0, .slice none 0 0] 63)) := below_alloc (below_then HB.out HB.out.size HI.out.below) _
        have hcall := IH.out n m (wr.alloc (.cells #[.int .i64 0, .slice none 0 0, .slice none 0 0] 63)) hB1 hs
        have HS2 := Aside0.mk hS2
        have HSM := Aside0.mk hs
        clear hs hS2 HS hB1
        obtain ⟨tn, htn⟩ : ∃ tn, (rd_T52 l (n : Int)).f0 = tn := ⟨_, rfl⟩
        rw [htn] at hcall
        clear htn
        go_wp2_with fail
        refine hcall.mono ?_
        rintro ex W2 ⟨Av, mv, cv, Ak, mk, ck, rfl, hM, hb⟩
        have HM := Aside0.mk hM
        have HB2 := Aside0.mk hb
        clear hM hb hcall
        have hsz : (wr.alloc (.cells #[.int .i64 0, .slice none 0 0, .slice none 0 0] 63)).heap.size = wr.heap.size + 1 := size_al _ _
        have k0 : W2.heap[wr.heap.size]? = some (.cells #[.int .i64 0, .slice none 0 0, .slice none 0 0] 63 (0, 0)) := (HB2.out.block _ (by rw [hsz]; omega)).trans (blk_al_new _ _)
        have k1 := heap_set k0 0 (.int .i64 tn)
        have k2 := heap_set k1 1 (.slice Av mv cv)
        have k3 := heap_set k2 2 (.slice Ak mk ck)
        have k6 : W2.heap[w.heap.size + 1]? = some (.cells #[.int .i64 tag, .slice A1 bl c1, kv] 63 (0, 0)) := (HB2.out.block _ (by rw [hsz]; have := (Array.getElem?_eq_some_iff.1 HI.out.b6).1; omega)).trans (blk_al _ HI.out.b6)
        have ne : w.heap.size + 1 ≠ wr.heap.size := by have := (Array.getElem?_eq_some_iff.1 HI.out.b6).1; omega
        have k6' := (((heap_other _ _ 2 (.slice Ak mk ck) _ ne).trans (heap_other _ _ 1 (.slice Av mv cv) _ ne)).trans (heap_other _ _ 0 (.int .i64 tn) _ ne)).trans k6
        have x0 : W2.cell? ⟨wr.heap.size, 0, none⟩ = some (.int .i64 0) := cell_at k0 0
        have y0 := free_at k0 0
        have x1 : (W2.setCell ⟨wr.heap.size, 0, none⟩ (.int .i64 tn)).cell? ⟨wr.heap.size, 1, none⟩ = some (.slice none 0 0) := cell_at k1 1
        have y1 := free_at k1 1
        have x2 : ((W2.setCell ⟨wr.heap.size, 0, none⟩ (.int .i64 tn)).setCell ⟨wr.heap.size, 1, none⟩ (.slice Av mv cv)).cell? ⟨wr.heap.size, 2, none⟩ = some (.slice none 0 0) := cell_at k2 2
        have y2 := free_at k2 2
        have hB23 : ∀ k, k ≠ wr.heap.size → (((W2.setCell ⟨wr.heap.size, 0, none⟩ (.int .i64 tn)).setCell ⟨wr.heap.size, 1, none⟩ (.slice Av mv cv)).setCell ⟨wr.heap.size, 2, none⟩ (.slice Ak mk ck)).heap[k]? = W2.heap[k]? := fun k hk => ((heap_other _ _ 2 _ _ hk).trans (heap_other _ _ 1 _ _ hk)).trans (heap_other _ _ 0 _ _ hk)
        have hB3 : Below w.heap.size w (((W2.setCell ⟨wr.heap.size, 0, none⟩ (.int .i64 tn)).setCell ⟨wr.heap.size, 1, none⟩ (.slice Av mv cv)).setCell ⟨wr.heap.size, 2, none⟩ (.slice Ak mk ck)) := by
          have e : Below w.heap.size w W2 := below_then (below_alloc HI.out.below _) (by rw [hsz]; have := HI.out.below.size; omega) HB2.out
          have hs := HI.out.below.size
          exact below_set (below_set (below_set e (by exact hs)) (by exact hs)) (by exact hs)
        have hszS : wr.heap.size + 1 ≤ (((W2.setCell ⟨wr.heap.size, 0, none⟩ (.int .i64 tn)).setCell ⟨wr.heap.size, 1, none⟩ (.slice Av mv cv)).setCell ⟨wr.heap.size, 2, none⟩ (.slice Ak mk ck)).heap.size := by
          have := HB2.out.size
          rw [hsz] at this
          simpa [World.setCell] using this
        have K3 := Aside0.mk k3
        have K6 := Aside0.mk k6'
        have HK23 := Aside0.mk hB23
        have HB3 := Aside0.mk hB3
        have HSS := Aside0.mk hszS
        clear k0 k1 k2 k3 k6 k6' ne hB23 hB3 hszS
        go_upto_region 7 with (fail)
        generalize hW3 : ((W2.setCell ⟨wr.heap.size, 0, none⟩ (.int .i64 tn)).setCell ⟨wr.heap.size, 1, none⟩ (.slice Av mv cv)).setCell ⟨wr.heap.size, 2, none⟩ (.slice Ak mk ck) = W3
        rw [hW3] at K3 K6 HK23 HB3 HSS
        clear hW3 x0 x1 x2 y0 y1 y2
        have z2 : W3.cell? ⟨w.heap.size + 1, 2, none⟩ = some kv := cell_at K6.out 2
        have x0 : W3.cell? ⟨wr.heap.size, 0, none⟩ = some (.int .i64 tn) := cell_at K3.out 0
        have x1 : W3.cell? ⟨wr.heap.size, 1, none⟩ = some (.slice Av mv cv) := cell_at K3.out 1
        have x2 : W3.cell? ⟨wr.heap.size, 2, none⟩ = some (.slice Ak mk ck) := cell_at K3.out 2
        have hfar4 : w.heap.size < wr.heap.size ∧ w.heap.size + 1 < wr.heap.size := by
          have := (Array.getElem?_eq_some_iff.1 HI.out.b6).1
          omega
        have K4 : Aside0 (W3.heap[w.heap.size]? = some (.cells #[.int .i64 0, .slice none 0 0, .slice none 0 0] 63 (0, 0))) := ⟨((HK23.out _ (by omega)).trans (HB2.out.block _ (by rw [hsz]; omega))).trans (blk_al _ HI.out.b4)⟩
        have HOK : Aside0 ((kN l w0 g).R 63 W3 w.heap.size (fun k => k ≠ w.heap.size ∧ k ≠ w.heap.size + 1) kv acc) := ⟨by
          refine Kd.R_step HI.out.row (fun k _ hlt => ?_)
          refine ((HK23.out k (by omega)).trans (HB2.out.block k (by rw [hsz]; omega))).trans ?_
          exact Array.getElem?_push_lt hlt |>.trans (Array.getElem?_eq_getElem hlt).symm⟩
        have HMK : Aside0 ((kN l w0 g).M W3 w.heap.size (fun k => wr.heap.size + 1 ≤ k) n [.int .i64 tn, .slice Av mv cv, .slice Ak mk ck]) := ⟨by
          refine (kN l w0 g).M_lower (by rw [hsz]; omega : w.heap.size ≤ (wr.alloc (.cells #[.int .i64 0, .slice none 0 0, .slice none 0 0] 63)).heap.size) ?_
          refine (kN l w0 g).M_mono (fun k hk => by have h := hk.2.1; rw [hsz] at h; exact h) ((kN l w0 g).M_move (fun k hk => HK23.out k ?_) ((kN l w0 g).M_bound HM.out))
          have h := hk.2.1
          rw [hsz] at h
          omega⟩
        have HOWN : Aside0 (∀ k, kv.ownBlock = some k → k ≠ w.heap.size ∧ k ≠ w.heap.size + 1 ∧ k < wr.heap.size) := ⟨fun k hk => ⟨(HI.out.row.1 k hk).1, (HI.out.row.1 k hk).2, Kd.R_lt HI.out.row k hk⟩⟩
        clear HM HB2 hsz
        go_wp2_with (first | (at_builtin; refine Kd.R_append (kN l w0 g) (w0 := w) w.heap.size rfl (.tmp 37) (.tmp 39) 61 63 (.agg #[.int .i64 0, .slice none 0 0, .slice none 0 0]) 56 rfl Try.underlying61 (by rw [kN_sz]; exact info63) (by rw [kN_sz]; rfl) (by rw [kN_sz]; decide) (by omega) kv acc n [.int .i64 tn, .slice Av mv cv, .slice Ak mk ck] (fun k => k ≠ w.heap.size ∧ k ≠ w.heap.size + 1) (fun k => wr.heap.size + 1 ≤ k) rfl rfl HMK.out ?aP ?aF HOK.out HB3.out ?aS ?aL ?_; (case aP => exact (fun k hk => ⟨⟨by omega, by omega⟩, fun e => by have := (HOWN.out k e.symm).2.2; omega⟩)); (case aF => exact (fun k hk => by have := HSS.out; constructor <;> omega)); (case aS => exact HB3.out.size); (case aL => omega); intro v5 w5 ho hb hg hat; obtain ⟨A5, c5, rfl⟩ := Kd.R_slice ho; have hne6 : some (w.heap.size + 1) ≠ kv.ownBlock := fun e => (HOWN.out _ e.symm).2.1 rfl; have hne4 : some w.heap.size ≠ kv.ownBlock := fun e => (HOWN.out _ e.symm).1 rfl; have j6 := (hg.block _ (by have := HSS.out; omega) hne6).trans K6.out; have j4 := (hg.block _ (by have := HSS.out; omega) hne4).trans K4.out; have r2 : w5.cell? ⟨w.heap.size + 1, 2, none⟩ = some kv := cell_at j6 2; have r3 := free_at j6 2; have J6 := Aside0.mk j6; have J4 := Aside0.mk j4; have HO5 := Aside0.mk ho; have HB5 := Aside0.mk hb; clear ho hb hg hat j6 j4 hne6 hne4))
        clear x0 x1 x2 r2 r3
        go_roundg gk
        case measure => omega
        case rel =>
          refine ⟨c + 1, m, acc ++ [n], .slice A5 (c + 1) c5, by omega, rfl, rfl, by omega, by simp [hacc], HS2, ⟨?_⟩, ⟨?_, ?_, ?_, ?_⟩⟩
          · rw [List.append_assoc, ← HK2.out]
            show acc ++ ([n] ++ kidsN (sk l g) gk m) = acc ++ kidsN (sk l g) (gk + 1) n
            simp [kidsN, HSM.out]
          · exact below_set HB5.out (by omega)
          · exact (heap_other _ _ 2 _ _ (by omega)).trans J4.out
          · exact heap_set J6.out 2 _
          · have h5 := HO5.out
            have e5 : (acc ++ [n]).length = c + 1 := by simp [hacc]
            rw [e5] at h5
            exact Kd.R_far h5 (fun k hk => hk.2) _
      · obtain rfl : gk = 0 := by omega
        have e1 : n = e := Option.some.inj HS.out
        subst e1
        have hkk : acc = kidsN (sk l g) cnt (i + 1) := by
          have := HK2.out
          simpa [kidsN] using this
        subst hkk
        obtain ⟨Ak, ck, rfl⟩ := Kd.R_slice HI.out.row
        obtain ⟨mk, hmk⟩ : ∃ mk, (kidsN (sk l g) cnt (i + 1)).length = mk := ⟨_, rfl⟩
        rw [hmk] at HI
        have HMK := Aside0.mk hmk
        clear hmk
        have k4 := HI.out.b4
        have k6 := HI.out.b6
        have x0 : wr.cell? ⟨w.heap.size + 1, 0, none⟩ = some (.int .i64 tag) := cell_at k6 0
        have x1 : wr.cell? ⟨w.heap.size + 1, 1, none⟩ = some (.slice A1 bl c1) := cell_at k6 1
        have x2 : wr.cell? ⟨w.heap.size + 1, 2, none⟩ = some (.slice Ak mk ck) := cell_at k6 2
        have k1 := heap_set k4 0 (.int .i64 tag)
        have k2 := heap_set k1 1 (.slice A1 bl c1)
        have k3 := heap_set k2 2 (.slice Ak mk ck)
        have y0 : wr.cell? ⟨w.heap.size, 0, none⟩ = some (.int .i64 0) := cell_at k4 0
        have z0 := free_at k4 0
        have y1 : (wr.setCell ⟨w.heap.size, 0, none⟩ (.int .i64 tag)).cell? ⟨w.heap.size, 1, none⟩ = some (.slice none 0 0) := cell_at k1 1
        have z1 := free_at k1 1
        have y2 : ((wr.setCell ⟨w.heap.size, 0, none⟩ (.int .i64 tag)).setCell ⟨w.heap.size, 1, none⟩ (.slice A1 bl c1)).cell? ⟨w.heap.size, 2, none⟩ = some (.slice none 0 0) := cell_at k2 2
        have z2 := free_at k2 2
        have t0 : (((wr.setCell ⟨w.heap.size, 0, none⟩ (.int .i64 tag)).setCell ⟨w.heap.size, 1, none⟩ (.slice A1 bl c1)).setCell ⟨w.heap.size, 2, none⟩ (.slice Ak mk ck)).cell? ⟨w.heap.size, 0, none⟩ = some (.int .i64 tag) := cell_at k3 0
        have t1 : (((wr.setCell ⟨w.heap.size, 0, none⟩ (.int .i64 tag)).setCell ⟨w.heap.size, 1, none⟩ (.slice A1 bl c1)).setCell ⟨w.heap.size, 2, none⟩ (.slice Ak mk ck)).cell? ⟨w.heap.size, 1, none⟩ = some (.slice A1 bl c1) := cell_at k3 1
        have t2 : (((wr.setCell ⟨w.heap.size, 0, none⟩ (.int .i64 tag)).setCell ⟨w.heap.size, 1, none⟩ (.slice A1 bl c1)).setCell ⟨w.heap.size, 2, none⟩ (.slice Ak mk ck)).cell? ⟨w.heap.size, 2, none⟩ = some (.slice Ak mk ck) := cell_at k3 2
        have HK3 := Aside0.mk k3
        clear k1 k2 k3 k4 k6
        go_wp2
        refine bodyPost_ret (results_ct rfl _ _ w.heap.size 63 #[.int .i64 tag, .slice A1 bl c1, .slice Ak mk ck] (0, 0) _ rfl HK3.out Try.underlying63 rfl (by kernel_rfl)) rfl ?_
        refine ⟨A1, bl, c1, Ak, mk, ck, rfl, ?_, ?_⟩
        · have h5 := Kd.R_far (Kd.R_far (Kd.R_far HI.out.row (p := ⟨w.heap.size, 0, none⟩) (fun k hk => hk.1) (.int .i64 tag)) (p := ⟨w.heap.size, 1, none⟩) (fun k hk => hk.1) (.slice A1 bl c1)) (p := ⟨w.heap.size, 2, none⟩) (fun k hk => hk.1) (.slice Ak mk ck)
          have h6 := GMK.out _ _ (fun _ => True) (.slice Ak mk ck) (by rw [HCNT.out]; exact Kd.R_mono h5 (fun _ _ => trivial))
          rw [HT.out, HBL.out] at h6
          exact h6
        · exact below_set (below_set (below_set HI.out.below (Nat.le_refl _)) (Nat.le_refl _)) (Nat.le_refl _)
set_option maxHeartbeats 2000000 in
set_option maxRecDepth 100000 in
theorem clone_some (ad : Addr) (c : Nat) (xs : List Int) (w : World) (hC : (Kd.int .u8).C w (some ad) xs.length xs) (hl : xs.length ≤ 1048576) :
    Calls Try.prog 64 #[.slice (some ad) xs.length c] w fun e w' => ∃ v, e = .returned v ∧ (Kd.int .u8).R 5 w' w.heap.size (fun _ => True) v xs ∧ Below w.heap.size w w' := by
  have HR := Aside0.mk hC
  clear hC
  have HB := Aside0.mk (Below.refl w.heap.size w)
  have he : ∀ W : World, (binOp .eql 38 (.slice (some ad) xs.length c) (.slice none 0 0)).run Try.prog W = .ok (.bool false) W := fun W => Go.Lib.run_eql_slice_nil W 38 5 (some ad) xs.length c 0 0 Try.underlying38
  go_enter Try.func64, Try.ntmps64
  go_wp2_with (first | ((with_reducible refine gate_dst (N := 5) rfl ?_); refine Kd.R_lit (Kd.int .u8) _ 5 ?hg (N := 5) ?hd (xs := ([] : List Int)) (inner := []) (ok := fun _ => True) (okp := fun _ => True) ?hr ?hp (fun _ hk => hk) trivial (Below.refl _ _) (Nat.le_refl _) (by simp) ?_; (case hd => rfl); (case hg => rfl); (case hr => first | (go_simp; done) | (go_simp; rfl)); (case hp => exact (Reps.none _ _)); intro v144 w3 ho4 hb hg_ hnew_; clear hg_ hnew_; have HO145 := Aside0.mk ho4; have HB1 := Aside0.mk hb; clear hb ho4) | ((with_reducible refine gate_builtin (b := .append) (xs := #[.tmp 5, .tmp 6]) rfl ?_); at_builtin; refine Kd.R_append_rows (Kd.int .u8) (w0 := w) w.heap.size rfl (.tmp 5) (.tmp 6) 38 5 (.int .u8 0) 1 rfl Try.underlying38 info5 rfl (by decide) (by omega) v144 [] xs _ _ _ (fun _ => True) (fun _ => False) rfl rfl HO145.out ?aR (fun _ _ h => h) (fun _ h => h.elim) (fun _ _ => trivial) HB1.out HB1.out.size ?aL ?_; (case aR => exact Kd.C_below HR.out HB1.out); (case aL => simp; omega); intro v147 w5 ho hb hg hat; have HO := Aside0.mk ho; have HB5 := Aside0.mk hb; clear ho hb hg hat))
  go_ret
  exact ⟨_, rfl, HO.out, HB5.out⟩
set_option maxHeartbeats 2000000 in
set_option maxRecDepth 100000 in
theorem clone_none (c : Nat) (w : World) :
    Calls Try.prog 64 #[.slice none 0 c] w fun e w' => e = .returned (.slice none 0 0) ∧ w = w' := by
  have he : ∀ W : World, (binOp .eql 38 (.slice none 0 c) (.slice none 0 0)).run Try.prog W = .ok (.bool true) W := fun W => Go.Lib.run_eql_slice_nil W 38 5 none 0 c 0 0 Try.underlying38
  go_enter Try.func64, Try.ntmps64
  go_wp2
  go_ret
  exact ⟨rfl, rfl⟩
theorem clone_calls (A : Option Addr) (c : Nat) (xs : List Int) (w : World) (hC : (Kd.int .u8).C w A xs.length xs) (hl : xs.length ≤ 1048576) :
    Calls Try.prog 64 #[.slice A xs.length c] w fun e w' => ∃ (A' : Option Addr) (c' : Nat), e = .returned (.slice A' xs.length c') ∧ (Kd.int .u8).R 5 w' w.heap.size (fun _ => True) (.slice A' xs.length c') xs ∧ Below w.heap.size w w' := by
  cases A with
  | some ad =>
    refine (clone_some ad c xs w hC hl).mono ?_
    rintro e w' ⟨v, rfl, ho, hb⟩
    obtain ⟨A', c', rfl⟩ := Kd.R_slice ho
    exact ⟨A', c', rfl, ho, hb⟩
  | none =>
    have : xs = [] := by
      cases xs with
      | nil => rfl
      | cons a t =>
        obtain ⟨ad, e, _⟩ := hC.2.2 (by simp)
        cases e
    subst this
    refine (clone_none c w).mono ?_
    rintro e w' ⟨rfl, rfl⟩
    exact ⟨none, 0, rfl, Kd.R_nil _ _ _ _ _, Below.refl _ _⟩
/-! ### items, each with its body's value -/
def kB : Kd (S52 × Value) where
  sz := k52.sz
  E := k52.E
  K := fun w x cs => k52.K w x.1 cs ∧ cs[1]? = some x.2
  M := fun w base ok x cs => k52.M w base ok x.1 cs ∧ cs[1]? = some x.2
  K_len := fun h => k52.K_len h.1
  K_one := fun h => k52.K_one h.1
  K_below := fun hb h => ⟨k52.K_below hb h.1, h.2⟩
  K_of_M := fun h => ⟨k52.K_of_M h.1, h.2⟩
  M_mono := fun hok h => ⟨k52.M_mono hok h.1, h.2⟩
  M_bound := fun h => ⟨k52.M_bound h.1, h.2⟩
  M_move := fun hm h => ⟨k52.M_move hm h.1, h.2⟩
  M_lower := fun hb h => ⟨k52.M_lower hb h.1, h.2⟩
def blocks (xs : List (S52 × Value)) : List Nat := xs.filterMap (fun x => x.2.ownBlock)
theorem kidsN_length (f : Nat → Option Nat) : ∀ c n, (kidsN f c n).length = c
  | 0, _ => rfl
  | c + 1, n => by simp [kidsN, kidsN_length f c]
def partL (l : List S52) (i e : Nat) : List S52 := (List.range' i (e - i)).map (fun (j : Nat) => rd_T52 l (j : Int))
theorem part_length (l : List S52) (i e : Nat) : (partL l i e).length = e - i := by simp [partL]
theorem part_one (l : List S52) (i : Nat) : partL l i (i + 1) = [rd_T52 l (i : Int)] := by
  unfold partL
  rw [show i + 1 - i = 1 by omega]
  rfl
theorem part_split (l : List S52) {i m e : Nat} (h1 : i ≤ m) (h2 : m ≤ e) : partL l i e = partL l i m ++ partL l m e := by
  unfold partL
  rw [← List.map_append, show e - i = (m - i) + (e - m) by omega, ← List.range'_append_1, show i + (m - i) = m by omega]
theorem kB_blocks {w : World} {base : Nat} {ok : Nat → Prop} {v : Value} {xs : List (S52 × Value)} (h : kB.R 52 w base ok v xs) : ∀ b ∈ blocks xs, base ≤ b ∧ b < w.heap.size ∧ ok b ∧ some b ≠ v.ownBlock := by
  intro b hb
  obtain ⟨x, hx, hxb⟩ := List.mem_filterMap.1 hb
  obtain ⟨j, hj, rfl⟩ := List.mem_iff_getElem.1 hx
  obtain ⟨_, inner, ho, hr⟩ := h
  obtain ⟨h1, h2⟩ := hr.2 j _ (List.getElem?_eq_getElem hj)
  obtain ⟨v1, e, hR⟩ := k52_openM h1
  have h2 : ((inner.drop (j * k52.sz)).take k52.sz)[1]? = some xs[j].2 := h2
  have e : (inner.drop (j * k52.sz)).take k52.sz = [.int .i64 xs[j].1.f0, v1, .int .i64 xs[j].1.f2] := e
  rw [e] at h2
  have e2 : v1 = xs[j].2 := Option.some.inj h2
  rw [← e2] at hxb
  exact ⟨Kd.R_base hR b hxb, Kd.R_lt hR b hxb, (hR.1 b hxb).1, (hR.1 b hxb).2⟩
theorem blocks_append (xs ys : List (S52 × Value)) : blocks (xs ++ ys) = blocks xs ++ blocks ys := by
  unfold blocks
  rw [List.filterMap_append]
theorem kB_rows {W : World} {base b1 : Nat} {ok : Nat → Prop} {A : Option Addr} {n c : Nat} {ys : List (S52 × Value)} (h : kB.R 52 W b1 ok (.slice A n c) ys) (hb : base ≤ b1) : ReadsRow (fun x cs => kB.M W base (fun k => b1 ≤ k) x cs) 3 W A n ys := by
  obtain ⟨_, hO⟩ := Kd.R_bound h
  obtain ⟨A', c', he, _, hr⟩ := hO.reads
  injection he with q1 q2 q3
  subst q1 q2
  exact hr.imp_ (Below.refl _ _) (fun p cs hp => kB.M_lower hb (kB.M_mono (fun k hk => hk.1.2.1) hp))
structure IInv (l : List S52) (w0 w wr : World) (g i n base0 : Nat) (ok0 : Nat → Prop) (kv v : Value) (places : List Nat) (xs : List (S52 × Value)) : Prop where
  below : Below w.heap.size w wr
  kids : (kN l w0 g).R 63 wr base0 ok0 kv places
  row : kB.R 52 wr w.heap.size (fun _ => True) v xs
  fst : xs.map (·.1) = partL l i n
  nodup : (blocks xs).Nodup
theorem info52' : (Try.prog.info? 52).map (fun i => (i.zero, i.size, i.bytes)) = some (some (.agg #[(.int .i64 0), (.slice none 0 0), (.int .i64 0)]), 3, 40) := by kernel_rfl
set_option maxHeartbeats 4000000 in
set_option maxRecDepth 100000 in
theorem items_calls (l : List S52) (w0 : World) (hm : l.length ≤ 1000) (hkb : ∀ j : Nat, j < l.length → 0 ≤ (rd_T52 l (j : Int)).f2 ∧ (rd_T52 l (j : Int)).f2 ≤ 300) (hbb : ∀ j : Nat, j < l.length → (rd_T52 l (j : Int)).f1.length ≤ 1048576) :
    ∀ (g i e : Nat) (w : World) (base0 : Nat) (ok0 : Nat → Prop) (cs : List Value), Below w0.heap.size w0 w → sk l g i = some e → (kN l w0 g).M w base0 ok0 i cs → Calls Try.prog 51 #[.agg cs.toArray] w fun ex w' =>
      ∃ (A : Option Addr) (c : Nat) (xs : List (S52 × Value)), ex = .returned (.slice A xs.length c) ∧ kB.R 52 w' w.heap.size (fun _ => True) (.slice A xs.length c) xs ∧ xs.map (·.1) = partL l i e ∧ (blocks xs).Nodup ∧ Below w.heap.size w w' := by
  intro g
  induction g with
  | zero =>
    intro i e w base0 ok0 cs _ h
    cases h
  | succ g ih =>
    intro i e w base0 ok0 cs hB h hM
    have hle := sk_le l _ _ _ h
    have hi : i < l.length := by omega
    obtain ⟨A1, c1, kv, rfl, hl1, hb1, hk⟩ := kN_open hM
    obtain ⟨Ak, ck, rfl⟩ := Kd.R_slice hk
    unfold sk at h
    rw [if_pos hi] at h
    have hki := hkb i hi
    have hbi := hbb i hi
    obtain ⟨cnt, hcnt⟩ : ∃ cnt : Nat, (rd_T52 l (i : Int)).f2 = (cnt : Int) := ⟨_, (Int.toNat_of_nonneg hki.1).symm⟩
    have hkl : (kidsN (sk l g) ((rd_T52 l (i : Int)).f2).toNat (i + 1)).length = cnt := by rw [kidsN_length, hcnt]; rfl
    rw [hkl] at hk ⊢
    have hit : (⟨(rd_T52 l (i : Int)).f0, (rd_T52 l (i : Int)).f1, (cnt : Int)⟩ : S52) = rd_T52 l (i : Int) := by rw [← hcnt]
    have HIT := Aside0.mk hit
    clear hit hkl
    rw [hcnt, Int.toNat_natCast] at h hk
    rw [hcnt] at hki
    have HS := Aside0.mk h
    have HK := Aside0.mk hk
    have HB := Aside0.mk hB
    have HBODY := Aside0.mk (Kd.C_below hb1 hB)
    have HKB := Aside0.mk hkb
    have HBB := Aside0.mk hbb
    have IH := Aside0.mk ih
    clear h hk hB hb1 hkb hbb ih hM hcnt
    obtain ⟨tag, ht⟩ : ∃ tag, (rd_T52 l (i : Int)).f0 = tag := ⟨_, rfl⟩
    obtain ⟨body, hbody⟩ : ∃ body, (rd_T52 l (i : Int)).f1 = body := ⟨_, rfl⟩
    rw [ht, hbody] at HIT
    rw [hbody] at HBODY hbi hl1
    rw [ht, hbody]
    clear ht hbody
    obtain ⟨bl, hbl⟩ : ∃ bl, body.length = bl := ⟨_, rfl⟩
    rw [hbl] at HBODY hbi hl1
    rw [hbl]
    have HBL := Aside0.mk hbl
    have hb1 := hbi
    clear hbl
    obtain ⟨mk, hmk⟩ : ∃ mk, mk = cnt := ⟨_, rfl⟩
    subst hmk
    show Calls Try.prog 51 #[.agg #[.int .i64 tag, .slice A1 bl c1, .slice Ak mk ck]] w _
    have hu := Try.underlying63
    have hcl : Calls Try.prog 64 #[.slice A1 bl c1] (w.alloc (.cells #[.int .i64 tag, .slice A1 bl c1, .slice Ak mk ck] 63)).drew fun ex w' => ∃ (A' : Option Addr) (c' : Nat), ex = .returned (.slice A' bl c') ∧ Aside0 ((Kd.int .u8).R 5 w' w.heap.size (fun k => k ≠ w.heap.size) (.slice A' bl c') body) ∧ Aside0 (Below (w.heap.size + 1) (w.alloc (.cells #[.int .i64 tag, .slice A1 bl c1, .slice Ak mk ck] 63)) w') ∧ w'.cell? ⟨w.heap.size, 0, none⟩ = some (.int .i64 tag) ∧ w'.cell? ⟨w.heap.size, 1, none⟩ = some (.slice A1 bl c1) ∧ w'.cell? ⟨w.heap.size, 2, none⟩ = some (.slice Ak mk ck) := by
      have hsz : (w.alloc (.cells #[.int .i64 tag, .slice A1 bl c1, .slice Ak mk ck] 63)).heap.size = w.heap.size + 1 := size_al _ _
      have := clone_calls A1 c1 body (w.alloc (.cells #[.int .i64 tag, .slice A1 bl c1, .slice Ak mk ck] 63)).drew (by rw [HBL.out]; exact Kd.C_drew (Kd.C_alloc HBODY.out _)) (by rw [HBL.out]; exact hb1)
      rw [HBL.out] at this
      refine this.mono ?_
      rintro ex w' ⟨A', c', rfl, ho, hb⟩
      have hs2 : (w.alloc (.cells #[.int .i64 tag, .slice A1 bl c1, .slice Ak mk ck] 63)).drew.heap.size = w.heap.size + 1 := hsz
      rw [hs2] at hb ho
      have hb' : Below (w.heap.size + 1) (w.alloc (.cells #[.int .i64 tag, .slice A1 bl c1, .slice Ak mk ck] 63)) w' := ⟨hb.os, hb.tape, hb.output, hb.size, hb.block⟩
      have k0 : w'.heap[w.heap.size]? = some (.cells #[.int .i64 tag, .slice A1 bl c1, .slice Ak mk ck] 63 (0, 0)) := (hb'.block _ (by omega)).trans (blk_al_new _ _)
      exact ⟨A', c', rfl, ⟨Kd.R_lower (Kd.R_mono (Kd.R_bound ho) (fun k hk => by have := hk.2.1; omega)) (by omega)⟩, ⟨hb'⟩, cell_at k0 0, cell_at k0 1, cell_at k0 2⟩
    have HCL := Aside0.mk hcl
    clear hcl
    go_enter Try.func51, Try.ntmps51
    go_wp2
    go_region_held3 (fun w' => w'.cell? ⟨w.heap.size, 0, none⟩ = some (.int .i64 tag) ∧ w'.cell? ⟨w.heap.size, 1, none⟩ = some (.slice A1 bl c1) ∧ w'.cell? ⟨w.heap.size, 2, none⟩ = some (.slice Ak mk ck)) (go_keep) ((go_at_call 64; refine HCL.out.mono ?_; rintro ex w2 ⟨A', c', rfl, HO, HB2, m0, m1, m2⟩))
    have hszB := size_al w (.cells #[.int .i64 tag, .slice A1 bl c1, .slice Ak mk ck] 63)
    have HBW : Aside0 (Below w.heap.size w w2) := ⟨below_then (below_alloc (Below.refl _ _) (.cells #[.int .i64 tag, .slice A1 bl c1, .slice Ak mk ck] 63)) (by rw [hszB]; omega) (by rw [hszB]; exact HB2.out)⟩
    clear hszB
    go_wp2_with fail
    go_loopg [3, 19] mk (fun gk v3 v19 wr => ∃ (k n : Nat) (A3 : Option Addr) (c3 : Nat) (xs : List (S52 × Value)), k + gk = mk ∧ v19 = .int .i64 (k : Int) ∧ v3 = .slice A3 xs.length c3 ∧ n ≤ l.length ∧ Aside0 (stepsN (sk l g) gk n = some e) ∧ Aside0 ((kidsN (sk l g) mk (i + 1)).drop k = kidsN (sk l g) gk n) ∧ Aside0 (i < n) ∧ Aside0 (IInv l w0 w wr g i n base0 ok0 (.slice Ak mk ck) (.slice A3 xs.length c3) (kidsN (sk l g) mk (i + 1)) xs))
    case atStart =>
      refine ⟨0, i + 1, some ⟨w2.heap.size, 0, none⟩, 1, [(⟨tag, body, (mk : Int)⟩, .slice A' bl c')], by omega, rfl, rfl, by omega, HS, ⟨rfl⟩, ⟨by omega⟩, ⟨?_, ?_, ?_, ?_, ?_⟩⟩
      · exact below_alloc HBW.out _
      · exact Kd.R_below HK.out (below_alloc HBW.out _)
      · refine ⟨fun k hk => trivial, [.int .i64 tag, .slice A' bl c', .int .i64 (mk : Int)], ⟨rfl, .inr ⟨w2.heap.size, 1, #[.int .i64 tag, .slice A' bl c', .int .i64 (mk : Int)], rfl, HBW.out.size, blk_al_new _ _, Nat.le_refl _, by decide, rfl, rfl⟩⟩, rfl, ?_⟩
        intro j p hp
        cases j with
        | succ j => simp at hp
        | zero =>
          obtain rfl : (⟨tag, body, (mk : Int)⟩, .slice A' bl c') = p := by simpa using hp
          refine ⟨k52_mkM _ _ _ _ (v1 := .slice A' bl c') ?_, rfl⟩
          refine Kd.R_alloc (Kd.R_mono (Kd.R_bound HO.out) (fun k hk => ⟨trivial, fun e => ?_⟩)) _
          have e2 : k = w2.heap.size := Option.some.inj e
          have := hk.2.2.1
          omega
      · rw [part_one, ← HIT.out]
        rfl
      · show (blocks [_]).Nodup
        unfold blocks
        cases A' with
        | none => simp [Value.ownBlock]
        | some a => cases a with
          | mk b o f => simp only [List.filterMap_cons, List.filterMap_nil]; split <;> simp
    case round =>
      obtain ⟨k, n, A3, c3, xs, hk, rfl, rfl, hn, HS2, HD, HIN, HI⟩ := hrel
      by_cases hlt : (k : Int) < (mk : Int)
      · obtain ⟨gk, rfl⟩ : ∃ q, gk = q + 1 := ⟨gk - 1, by omega⟩
        obtain ⟨m, hs, hS2⟩ : ∃ m, sk l g n = some m ∧ stepsN (sk l g) gk m = some e := by
          have := HS2.out
          unfold stepsN at this
          cases hf : sk l g n with
          | none => rw [hf] at this; cases this
          | some m => rw [hf] at this; exact ⟨m, rfl, this⟩
        have hle2 := sk_le l _ _ _ hs
        have hat : (kidsN (sk l g) mk (i + 1)).getD (k : Int).toNat 0 = n := by
          have h1 := congrArg (fun q => q[0]?) HD.out
          simp only [List.getElem?_drop, Nat.add_zero] at h1
          rw [Int.toNat_natCast, List.getD_eq_getElem?_getD, h1]
          rfl
        have hdr : (kidsN (sk l g) mk (i + 1)).drop (k + 1) = kidsN (sk l g) gk m := by
          have h1 := congrArg (fun q => q.drop 1) HD.out
          simp only [List.drop_drop] at h1
          rw [h1]
          simp [kidsN, hs]
        obtain ⟨_, hO⟩ := HI.out.kids
        obtain ⟨Aq, cq, heq, hcq, hrr⟩ := hO.reads
        rw [kidsN_length] at heq hcq hrr
        injection heq with q1 q2 q3
        subst q1 q3
        obtain ⟨ad, cs, rfl, hcl2, hMM, hcell⟩ := hrr.get_ 0 (k : Int) (by omega) hlt
        rw [hat] at hMM
        have HMM := Aside0.mk hMM
        have hg : ∃ g', g = g' + 1 := by
          cases g with
          | zero => cases hs
          | succ g' => exact ⟨g', rfl⟩
        have hfm : ∃ (t' : Int) (Ab : Option Addr) (nb cb : Nat) (Ac : Option Addr) (nc cc : Nat), cs = [.int .i64 t', .slice Ab nb cb, .slice Ac nc cc] := by
          obtain ⟨g', rfl⟩ := hg
          obtain ⟨Ab, cb, kv2, e1, _, _, hR2⟩ := kN_open hMM
          obtain ⟨Ac, cc, rfl⟩ := Kd.R_slice hR2
          exact ⟨_, _, _, _, _, _, _, e1⟩
        obtain ⟨t', Ab, nb, cb, Ac, nc, cc, rfl⟩ := hfm
        rw [kN_sz, Int.toNat_natCast] at hcell
        have x0 : wr.cell? (ad.add (k * 3)) = some (.int .i64 t') := hcell 0 _ rfl
        have x1 : wr.cell? ⟨(ad.add (k * 3)).block, (ad.add (k * 3)).off + 1, none⟩ = some (.slice Ab nb cb) := by rw [← add_field _ _ 1 (by omega)]; exact hcell 1 _ rfl
        have x2 : wr.cell? ⟨(ad.add (k * 3)).block, (ad.add (k * 3)).off + 2, none⟩ = some (.slice Ac nc cc) := by rw [← add_field _ _ 2 (by omega)]; exact hcell 2 _ rfl
        have HSM := Aside0.mk hs
        have HS3 := Aside0.mk hS2
        have HD3 := Aside0.mk hdr
        clear hs hS2 hat hdr hO hrr hMM hcell hcl2 hg HS2 HD
        have hsz1 := size_al wr (.cells #[.int .i64 t', .slice Ab nb cb, .slice Ac nc cc] 63)
        have hbw1 : Below wr.heap.size wr (wr.alloc (.cells #[.int .i64 t', .slice Ab nb cb, .slice Ac nc cc] 63)) := below_alloc (Below.refl _ _) _
        have hcall := IH.out n m (wr.alloc (.cells #[.int .i64 t', .slice Ab nb cb, .slice Ac nc cc] 63)) base0 _ [.int .i64 t', .slice Ab nb cb, .slice Ac nc cc] (below_then (below_then HB.out HB.out.size HI.out.below) (by have := HB.out.size; have := HI.out.below.size; omega) hbw1) HSM.out ((kN l w0 g).M_mono (fun _ h => h) (Kd.M_below HMM.out hbw1))
        have HCALL := Aside0.mk hcall
        have HSZ := Aside0.mk hsz1
        have HBW1 := Aside0.mk hbw1
        clear hcall hsz1 hbw1
        have HXL : Aside0 (xs.length ≤ 1000) := ⟨by have : xs.length = n - i := by { rw [← part_length l i n, ← HI.out.fst, List.length_map] }; omega⟩
        go_wp2_with (first | (go_at_call 51; refine HCALL.out.mono ?_; rintro ex W2 ⟨A5, c5, ys, rfl, ho5, hf5, hn5, hb5⟩; rw [HSZ.out] at ho5; have HYL : Aside0 (ys.length ≤ 1000) := ⟨by have : ys.length = m - n := (by rw [← part_length l n m, ← hf5, List.length_map]); omega⟩; have HBX : Aside0 (Below wr.heap.size wr W2) := ⟨below_then HBW1.out (by rw [HSZ.out]; omega) hb5⟩; have HO5 := Aside0.mk ho5; have HF5 := Aside0.mk hf5; have HN5 := Aside0.mk hn5; clear ho5 hf5 hn5 hb5 x0 x1 x2) | (at_builtin; refine Kd.R_append_rows kB (Rr := fun x cs => kB.M W2 w.heap.size (fun k => wr.heap.size + 1 ≤ k) x cs) (w0 := w) w.heap.size rfl (.tmp 23) (.tmp 25) 25 52 (.agg #[(.int .i64 0), (.slice none 0 0), (.int .i64 0)]) 40 rfl Try.underlying25 info52' rfl (by decide) (by omega) (.slice A3 xs.length c3) xs ys A5 ys.length c5 (fun _ => True) (fun k => wr.heap.size + 1 ≤ k) rfl rfl ?aO ?aR (fun _ _ h => h) ?aP (fun _ _ => trivial) ?aB ?aS ?aL ?_; (case aO => exact Kd.R_below HI.out.row HBX.out); (case aR => exact kB_rows HO5.out (by have := HI.out.below.size; omega)); (case aP => exact (fun k hk => ⟨trivial, fun e => by have := Kd.R_lt HI.out.row k e.symm; omega⟩)); (case aB => exact below_then HI.out.below HI.out.below.size HBX.out); (case aS => exact (below_then HI.out.below HI.out.below.size HBX.out).size); (case aL => have := HXL.out; have := HYL.out; omega); intro v6 w6 ho hb hg hat; obtain ⟨A6, c6, rfl⟩ := Kd.R_slice ho; have HO6 := Aside0.mk ho; have HB6 := Aside0.mk hb; have HG6 := Aside0.mk hg; clear ho hb hg hat))
        go_roundg gk
        case measure => omega
        case rel =>
          have h6 := HO6.out
          refine ⟨k + 1, m, A6, c6, xs ++ ys, by omega, rfl, by rw [List.length_append], by omega, HS3, HD3, ⟨by have := HIN.out; omega⟩, ⟨HB6.out, Kd.R_below HK.out HB6.out, h6, ?_, ?_⟩⟩
          · rw [List.map_append, HI.out.fst, HF5.out]
            exact (part_split l (by have := HIN.out; omega) (by omega)).symm
          · rw [blocks_append, List.nodup_append]
            refine ⟨HI.out.nodup, HN5.out, fun a ha b hb e => ?_⟩
            have h1 := kB_blocks HI.out.row a ha
            have h2 := kB_blocks HO5.out b hb
            omega
      · obtain rfl : gk = 0 := by omega
        have e1 : n = e := Option.some.inj HS2.out
        subst e1
        go_wp2
        go_ret
        exact ⟨A3, c3, xs, rfl, HI.out.row, HI.out.fst, HI.out.nodup, HI.out.below⟩
end Go.Proofs.Ytmeobalddjembaa.GFnStrict.Hand
