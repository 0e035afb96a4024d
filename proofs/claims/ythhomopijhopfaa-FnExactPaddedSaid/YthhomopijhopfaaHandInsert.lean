-- This text was written by hand (wip/hand/Insert.lean); Lean checks it.
import Derived.Test.YthhomopijhopfaaProg
import Derived.Below
import Derived.Deep.Draws
import Derived.Deep.AppendLies
import Derived.Maps.AppendAt
import Derived.OwnWalk
import Derived.Laws.BytesArg
import Derived.Laws.MakeOwn
import Derived.Laws.OwnMore
import Derived.Deep.OwnRows
import Derived.Tactics
import Derived.Lib.ConvBytes
import Derived.Laws.Slices
import Derived.WalkKit
import Derived.KernelRfl
import Derived.RowKit3
import Derived.Deep.LoopGhost
import Derived.Deep.QuietTactic
import Derived.BigQuiet
import Derived.WideLaws
import Derived.Deep.DeepCutAuto
import Derived.Deep.CutBlock
import Derived.Deep.RegionHeld3
import Derived.Laws.Rows
import Derived.Lib.AppendStr
import Derived.ArgAppend
import Derived.Laws.IdiomCopy
import Derived.OrdersHeld
import Derived.Laws.BitsLemmas
import Derived.RowKit
import Derived.Test.YthhomopijhopfaaBase
import Derived.Test.YthhomopijhopfaaWWords
import Derived.Test.YthhomopijhopfaaWLast
import Derived.Test.YthhomopijhopfaaWTab
import Derived.Test.YthhomopijhopfaaWFour
import Derived.Test.YthhomopijhopfaaWQPut
import Derived.Test.YthhomopijhopfaaWApart
import Derived.Test.YthhomopijhopfaaWArr
import Derived.Test.YthhomopijhopfaaWZeros
import Derived.Test.YthhomopijhopfaaWFoot
import Derived.Test.YthhomopijhopfaaWKept
import Derived.Test.YthhomopijhopfaaWShare
import Derived.Test.YthhomopijhopfaaWN
import Derived.Test.YthhomopijhopfaaWFootNe
import Derived.Test.YthhomopijhopfaaWAt
import Derived.Test.YthhomopijhopfaaWEqStruct
import Derived.Test.YthhomopijhopfaaWRepsOne
import Derived.Test.YthhomopijhopfaaWInv
import Derived.Test.YthhomopijhopfaaWInvWords
import Derived.Test.YthhomopijhopfaaWGuard
import Derived.Test.YthhomopijhopfaaWNEv
import Derived.Test.YthhomopijhopfaaWMore
import Derived.Shelf.Spec.SlicesInsert
import Derived.Shelf.Spec.SlicesInsertGrow
import Derived.Lib.BufferWrite
namespace Go.Proofs.Ythhomopijhopfaa.Hand
open Go.RowKit Go.Proofs.YthhomopijhopfaaW.PrintWords Go.Proofs.YthhomopijhopfaaW.PrintLast Go.Proofs.YthhomopijhopfaaW.PrintMore
attribute [local go_sem] max2_int min2_int max_two min_two max_three min_three max_four min_four   -- for this text's walks alone
set_option linter.unusedVariables false
set_option linter.unusedSimpArgs false

-- import Derived.Shelf.Spec.SlicesInsert
-- import Derived.Shelf.Spec.SlicesInsertGrow
-- import Derived.Lib.BufferWrite
/-! ### slices_Insert_int: function 77: by the shelf's four theorems (room or none, at the end or within), for one element -/
open Go.Shelf in
def lays221_ren : Go.Shelf.Ren := ⟨fun | 21 => 77 | 27 => 100 | 28 => 101 | 35 => 107 | 39 => 112 | n => n, fun | 22 => 39 | 3 => 3 | 4 => 4 | 0 => 0 | n => n, fun | n => n⟩
open Go.Shelf in
theorem lays221 : Go.Proofs.Lays2.n21 Try.prog lays221_ren := {
  mixed := by kernel_rfl
  f21 := Try.func77.trans (congrArg some (by kernel_rfl))
  f27 := Try.func100.trans (congrArg some (by kernel_rfl))
  f28 := Try.func101.trans (congrArg some (by kernel_rfl))
  f35 := Try.func107.trans (congrArg some (by kernel_rfl))
  f39 := Try.func112.trans (congrArg some (by kernel_rfl))
  t0 := Try.underlying0
  a0 := Try.isAgg0
  z0 := Try.sizeOf0
  v0 := Try.zeroValue0
  t3 := Try.underlying3
  a3 := Try.isAgg3
  z3 := Try.sizeOf3
  v3 := Try.zeroValue3
  t4 := Try.underlying4
  a4 := Try.isAgg4
  z4 := Try.sizeOf4
  v4 := Try.zeroValue4
  t22 := Try.underlying39
  a22 := Try.isAgg39
  z22 := Try.sizeOf39
  v22 := Try.zeroValue39
  i3 := by kernel_rfl }
def slices_Insert_int.f (l0 : List Int) (a1 : Int) (l2 : List Int) : Option (List Int) :=
  if 0 ≤ a1 then (if a1 ≤ (l0.length : Int) then (if l2.length = 1 then (if l0.length < 1099511627776 then some (l0.take a1.toNat ++ l2 ++ l0.drop a1.toNat) else none) else none) else none) else none
theorem heap_setCell_at {w : World} {g : Nat} {cur : Array Value} {t : TypeId} (h : w.heap[g]? = some (.cells cur t (0, 0))) (o : Nat) (v : Value) : (w.setCell ⟨g, o, none⟩ v).heap[g]? = some (.cells (cur.setIfInBounds o v) t (0, 0)) := by
  simp only [World.setCell, Array.getElem?_modify, if_true, h]
  rfl
theorem heap_setCells_at {g : Nat} {t : TypeId} : ∀ (vs : List Value) (o : Nat) (w : World) (cur : Array Value), w.heap[g]? = some (.cells cur t (0, 0)) → o + vs.length ≤ cur.size →
    ∃ cur', (w.setCells g o vs).heap[g]? = some (.cells cur' t (0, 0)) ∧ cur'.size = cur.size ∧ ∀ j, cur'[j]? = if o ≤ j ∧ j < o + vs.length then vs[j - o]? else cur[j]?
  | [], o, w, cur, h, _ => ⟨cur, h, rfl, fun j => by rw [if_neg (by simp)]⟩
  | v :: vs, o, w, cur, h, hl => by
    simp only [List.length_cons] at hl
    obtain ⟨cur', h1, h2, h3⟩ := heap_setCells_at vs (o + 1) (w.setCell ⟨g, o, none⟩ v) (cur.setIfInBounds o v) (heap_setCell_at h o v) (by simp; omega)
    refine ⟨cur', h1, by simpa using h2, fun j => ?_⟩
    rw [h3 j]
    by_cases c : j = o
    · subst c
      rw [if_neg (by omega), if_pos (by simp)]
      simp [show j < cur.size by omega]
    · by_cases c2 : o + 1 ≤ j ∧ j < o + 1 + vs.length
      · rw [if_pos c2, if_pos (by simp; omega), show j - o = (j - (o + 1)) + 1 by omega, List.getElem?_cons_succ]
      · rw [if_neg c2, if_neg (by simp; omega), Array.getElem?_setIfInBounds]
        rw [if_neg (by omega)]
theorem grown_setCells (g : Nat) : ∀ (vs : List Value) (o : Nat) {w w1 : World}, w.grownBy w1 (some g) → w.grownBy (w1.setCells g o vs) (some g)
  | [], _, _, _, h => h
  | v :: vs, o, w, w1, h => grown_setCells g vs (o + 1) (w := w) (w1 := w1.setCell ⟨g, o, none⟩ v) ⟨h.os, h.tape, h.output, by simpa [World.setCell] using h.size, fun k hk hn => by
      rw [← h.block k hk hn]
      simp only [World.setCell, Array.getElem?_modify]
      rw [if_neg (fun e => hn (by simpa using e.symm))]⟩
theorem grown_drew {w w' : World} {row : Option Nat} (h : w.grownBy w' row) : w.grownBy w'.drew row := ⟨h.os, h.tape, h.output, h.size, h.block⟩
theorem own_told {w : World} {base g cap n : Nat} {e : TypeId} {cur : Array Value} {xs : List Value} (hb : base ≤ g) (h : w.heap[g]? = some (.cells cur e (0, 0))) (hn : n ≤ cap) (hm : cap ≤ maxLen) (hs : cur.size = cap)
    (hl : xs.length = n) (hc : ∀ j, j < n → cur[j]? = xs[j]?) : w.ownsRow base e 1 (.slice (some ⟨g, 0, none⟩) n cap) n xs := by
  refine ⟨by omega, .inr ⟨g, cap, cur, rfl, hb, h, hn, hm, by omega, ?_⟩⟩
  apply List.ext_getElem?
  intro j
  rw [Nat.mul_one, List.getElem?_take]
  split
  · next hj =>
    rw [← hc j hj]
    simp
  · rw [List.getElem?_eq_none (by omega)]
theorem ins_get (cs vs : List Value) (i j : Nat) (hi : i ≤ cs.length) (hv : vs.length = 1) : (cs.take i ++ vs ++ cs.drop i)[j]? = if j < i then cs[j]? else if j = i then vs[0]? else cs[j - 1]? := by
  by_cases c1 : j < i
  · rw [if_pos c1, List.append_assoc, List.getElem?_append_left (by simp; omega), List.getElem?_take, if_pos c1]
  · rw [if_neg c1, List.append_assoc, List.getElem?_append_right (by simp; omega)]
    simp only [List.length_take, Nat.min_eq_left hi]
    by_cases c2 : j = i
    · rw [if_pos c2, List.getElem?_append_left (by omega)]
      congr 1
      omega
    · rw [if_neg c2, List.getElem?_append_right (by omega), List.getElem?_drop]
      congr 1
      omega
set_option maxHeartbeats 2000000 in
set_option maxRecDepth 100000 in
theorem insert_core (w : World) (base : Nat) (u0 u1 : Value) (cs vs : List Value) (i : Nat) (h0 : w.ownsRow base 3 1 u0 cs.length cs) (h1 : w.ownsRow base 3 1 u1 vs.length vs) (hb : base ≤ w.heap.size)
    (hne : ∀ k, u0.ownBlock = some k → u1.ownBlock ≠ some k) (hi : i ≤ cs.length) (hv : vs.length = 1) (hl : cs.length < 1099511627776) (hc1 : ∀ v ∈ cs, v.oneCell' = true) (hv1 : ∀ v ∈ vs, v.oneCell' = true) :
    Calls Try.prog 77 #[u0, .int .i64 (i : Int), u1] w fun e w' => ∃ v1, e = .returned v1 ∧ w'.ownsRow base 3 1 v1 (cs.length + 1) (cs.take i ++ vs ++ cs.drop i) ∧ w.grownBy w' u0.ownBlock ∧
      (v1.ownBlock = u0.ownBlock ∨ ∃ b, v1.ownBlock = some b ∧ w.heap.size ≤ b) := by
  rcases h1.2 with ⟨rfl, e1⟩ | ⟨g1, cap1, cur1, rfl, hb1, hh1, hn1, hm1, hs1, ht1⟩
  · omega
  have hlen : (cs.take i ++ vs ++ cs.drop i).length = cs.length + 1 := by simp; omega
  have hvs : ∀ j v, vs[j]? = some v → w.cell? ⟨g1, 0 + j, none⟩ = some v := by
    intro j v hj
    rw [Nat.zero_add]
    unfold World.cell?
    simp only [hh1]
    have hjl : j < vs.length := (List.getElem?_eq_some_iff.1 hj).1
    rw [← ht1, List.getElem?_take, if_pos (by omega)] at hj
    simpa using hj
  have hgrow : ∀ (base0 : Option Addr) (c : Nat), u0 = .slice base0 cs.length c → cs.length ≤ c → c < cs.length + 1 → (base0 = none → cs.length = 0) → (∀ a, base0 = some a → ∀ j v, cs[j]? = some v → w.cell? (a.add j) = some v) → i = cs.length →
      Calls Try.prog 77 #[u0, .int .i64 (i : Int), .slice (some ⟨g1, 0, none⟩) vs.length cap1] w fun e w' => ∃ v1, e = .returned v1 ∧ w'.ownsRow base 3 1 v1 (cs.length + 1) (cs.take i ++ vs ++ cs.drop i) ∧ w.grownBy w' u0.ownBlock ∧
      (v1.ownBlock = u0.ownBlock ∨ ∃ b, v1.ownBlock = some b ∧ w.heap.size ≤ b) := by
    rintro base0 c rfl hnc hroom hnil hcs rfl
    refine (Any2.slices_Insert_int_end_grow lays221 base0 cs.length c g1 0 vs.length cap1 cs vs w (by omega) hnc (by omega) (by omega) rfl rfl hnil hcs hvs hv1).mono ?_
    rintro e w' ⟨rfl, rfl⟩
    rw [hv]
    have hga := fun o row => World.grownBy_alloc w.drew o row
    refine ⟨_, rfl, ?_, ⟨(hga _ none).os, (hga _ none).tape, (hga _ none).output, (hga _ none).size, fun k hk _ => (hga _ none).block k hk (by simp)⟩, .inr ⟨_, rfl, Nat.le_refl _⟩⟩
    · have hcap : cs.length + 1 ≤ grownCap w (cs.length + 1) c (lays221_ren.t 3) := grownCap_ge _ _ _ _
      refine own_told hb (heap_alloc_new w.drew _) hcap (grownCap_le_maxLen _ _ _ _ (by unfold maxLen; omega)) ?_ hlen ?_
      · simp [Builtin.zeroCells, Value.cells]
        omega
      · intro j hj
        rw [Array.getElem?_append_left (by simp; omega)]
        simp
  rcases h0.2 with ⟨rfl, e0⟩ | ⟨g, cap, cur, rfl, hbg, hh, hn, hm, hs, ht⟩
  · have : cs = [] := List.eq_nil_of_length_eq_zero e0
    subst this
    exact hgrow none 0 rfl (by simp) (by simp) (by simp) (fun _ h => by cases h) (by simpa using hi)
  have hcell : ∀ j, w.cell? ⟨g, j, none⟩ = cur[j]? := by
    intro j
    unfold World.cell?
    simp only [hh]
    simp
  have hfro : ∀ j, w.frozen? ⟨g, j, none⟩ = false := by
    intro j
    unfold World.frozen?
    simp only [hh]
    simp
  have hfro1 : ∀ j, w.frozen? ⟨g1, j, none⟩ = false := by
    intro j
    unfold World.frozen?
    simp only [hh1]
    simp
  have hcur : ∀ j, j < cs.length → cur[j]? = cs[j]? := by
    intro j hj
    rw [← ht, List.getElem?_take, if_pos (by omega)]
    simp
  have hcs : ∀ j v, cs[j]? = some v → w.cell? ⟨g, 0 + j, none⟩ = some v := by
    intro j v hj
    rw [Nat.zero_add, hcell, hcur j (List.getElem?_eq_some_iff.1 hj).1, hj]
  have hgg : g1 ≠ g := fun e => hne g rfl (by rw [e]; rfl)
  have hadd : ∀ j, (⟨g, 0, none⟩ : Addr).add j = ⟨g, 0 + j, none⟩ := fun j => by unfold Addr.add; split <;> simp_all
  by_cases hroom : cs.length + 1 ≤ cap
  · by_cases hie : i = cs.length
    · subst hie
      refine (Any2.slices_Insert_int_end_room lays221 g 0 cs.length cap g1 0 vs.length cap1 vs w (by omega) (by omega) (by unfold maxLen at hm; omega) rfl ?_ ?_ hvs hv1).mono ?_
      · intro j hj
        rw [hcell]
        simp
        omega
      · intro j _
        exact hfro _
      · rintro e w' ⟨rfl, rfl⟩
        rw [hv]
        obtain ⟨cur', k1, k2, k3⟩ := heap_setCells_at vs (0 + cs.length) w cur hh (by omega)
        refine ⟨_, rfl, own_told hbg k1 hroom hm (by omega) hlen ?_, grown_setCells g vs _ ⟨rfl, rfl, rfl, Nat.le_refl _, fun _ _ _ => rfl⟩, .inl rfl⟩
        intro j hj
        rw [k3 j, ins_get cs vs _ j (Nat.le_refl _) hv]
        by_cases c : j < cs.length
        · rw [if_neg (by omega), if_pos c, hcur j c]
        · rw [if_pos (by omega), if_neg c, if_pos (by omega)]
          congr 1
          omega
    · refine (Any2.slices_Insert_int_shift lays221 g 0 cs.length cap i g1 0 vs.length cap1 cs vs w (by omega) (by omega) (by omega) (by unfold maxLen at hm; omega) hgg rfl rfl hcs ?_ ?_ hvs hc1 hv1 3 3 cur1.size cur.size ?_ ?_ ?_ (hfro1 _) (hfro1 _)).mono ?_
      · intro j hj
        rw [hcell]
        simp
        omega
      · intro j _
        exact hfro _
      · unfold World.shape?
        rw [hh1]
      · unfold World.shape?
        rw [hh]
      · omega
      · rintro e w' ⟨rfl, rfl⟩
        rw [hv]
        obtain ⟨cur', k1, k2, k3⟩ := heap_setCells_at (cs.drop i) (0 + (i + 1)) w.drew cur hh (by simp; omega)
        obtain ⟨cur2, j1, j2, j3⟩ := heap_setCells_at vs (0 + i) _ cur' k1 (by omega)
        refine ⟨_, rfl, own_told hbg j1 hroom hm (by omega) hlen ?_, grown_setCells g vs _ (grown_setCells g (cs.drop i) _ ⟨rfl, rfl, rfl, Nat.le_refl _, fun _ _ _ => rfl⟩), .inl rfl⟩
        intro j hj
        rw [j3 j, k3 j, ins_get cs vs _ j (by omega) hv]
        by_cases c : j < i
        · rw [if_neg (by omega), if_neg (by omega), if_pos c, hcur j (by omega)]
        · by_cases c2 : j = i
          · rw [if_pos (by omega), if_neg c, if_pos c2]
            congr 1
            omega
          · rw [if_neg (by omega), if_pos (by simp; omega), if_neg c, if_neg c2, List.getElem?_drop]
            congr 1
            omega
  · by_cases hie : i = cs.length
    · exact hgrow (some ⟨g, 0, none⟩) cap rfl hn (by omega) (fun h => by cases h) (fun a ha j v hj => by cases ha; rw [hadd]; exact hcs j v hj) hie
    · refine (Any2.slices_Insert_int_grow lays221 g 0 cs.length cap i g1 0 vs.length cap1 cs vs w (by omega) (by omega) hn (by omega) (by omega) rfl rfl hcs hvs hc1 hv1).mono ?_
      rintro e w' ⟨rfl, rfl⟩
      rw [hv]
      have hcap : cs.length + 1 ≤ grownCap w (cs.length + 1) cap (lays221_ren.t 3) := grownCap_ge _ _ _ _
      have hmx : grownCap w (cs.length + 1) cap (lays221_ren.t 3) ≤ maxLen := grownCap_le_maxLen _ _ _ _ (by unfold maxLen; omega)
      generalize grownCap w (cs.length + 1) cap (lays221_ren.t 3) = G at hcap hmx
      obtain ⟨ROW, hROW⟩ : ∃ R : Array Value, R = (cs.take i).toArray ++ Builtin.zeroCells (Value.int .i64 0).cells (cs.length + 1 - i) ++ Builtin.zeroCells (Value.int .i64 0).cells (G - (cs.length + 1)) := ⟨_, rfl⟩
      have hRs : ROW.size = G := by
        rw [hROW]
        simp [Builtin.zeroCells, Value.cells]
        omega
      have hR0 : ∀ j, j < i → ROW[j]? = cs[j]? := by
        intro j hj
        rw [hROW, Array.getElem?_append_left (by simp; omega), Array.getElem?_append_left (by simp; omega)]
        simp [List.getElem?_take, hj]
      rw [← hROW]
      have hnew : (w.alloc (.cells ROW (lays221_ren.t 3))).drew.heap[w.heap.size]? = some (.cells ROW 3 (0, 0)) := by
        exact heap_alloc_new w _
      obtain ⟨cur', k1, k2, k3⟩ := heap_setCells_at vs i _ ROW hnew (by omega)
      obtain ⟨cur2, j1, j2, j3⟩ := heap_setCells_at (cs.drop i) (i + 1) ((w.alloc (.cells ROW (lays221_ren.t 3))).drew.setCells w.heap.size i vs).drew cur' k1 (by simp; omega)
      have hgr : ∀ (vs : List Value) (o : Nat) (w1 : World), (w.grownBy w1 none) → w.grownBy (w1.setCells w.heap.size o vs) none := by
        intro vs
        induction vs with
        | nil => exact fun _ _ h => h
        | cons v vs ih =>
          intro o w1 h
          refine ih (o + 1) (w1.setCell ⟨w.heap.size, o, none⟩ v) ⟨h.os, h.tape, h.output, by simpa [World.setCell] using h.size, fun k hk hn => ?_⟩
          rw [← h.block k hk hn]
          simp only [World.setCell, Array.getElem?_modify]
          rw [if_neg (by omega)]
      have hgw := hgr (cs.drop i) (i + 1) _ (show w.grownBy ((w.alloc (.cells ROW (lays221_ren.t 3))).drew.setCells w.heap.size i vs).drew none from
        grown_drew (hgr vs i _ (grown_drew (World.grownBy_alloc w _ none))))
      refine ⟨_, rfl, own_told hb j1 hcap hmx (by omega) hlen ?_, ⟨hgw.os, hgw.tape, hgw.output, hgw.size, fun k hk _ => hgw.block k hk (by simp)⟩, .inr ⟨_, rfl, Nat.le_refl _⟩⟩
      intro j hj
      rw [j3 j, k3 j, ins_get cs vs _ j (by omega) hv]
      by_cases c : j < i
      · rw [if_neg (by omega), if_neg (by omega), if_pos c, hR0 j c]
      · by_cases c2 : j = i
        · rw [if_neg (by omega), if_pos (by omega), if_neg c, if_pos c2]
          congr 1
          omega
        · rw [if_pos (by simp; omega), if_neg c, if_neg c2, List.getElem?_drop]
          congr 1
          omega
set_option maxRecDepth 100000 in
theorem slices_Insert_int.calls (P0_ : Nat → Prop) (u9000_ : Value) (l0 : List Int) (a1 : Int) (P2_ : Nat → Prop) (u9001_ : Value) (l2 : List Int) (r : List Int) (w0 w : World) (hB : Below w0.heap.size w0 w) (ho0 : Kd.R (Kd.int .i64) 3 w w0.heap.size P0_ u9000_ l0) (hp0_2 : ∀ k_, P0_ k_ → ¬ P2_ k_) (ho2 : Kd.R (Kd.int .i64) 3 w w0.heap.size P2_ u9001_ l2) (hp2_0 : ∀ k_, P2_ k_ → ¬ P0_ k_) (h : slices_Insert_int.f l0 a1 l2 = some r) :
    Calls Try.prog 77 #[u9000_, .int .i64 a1, u9001_] w fun e w' => ∃ v0_ : Value, e = .returned (v0_) ∧ Kd.R (Kd.int .i64) 3 w' w0.heap.size (fun k_ => ((P0_ k_ ∨ P2_ k_) ∨ w.heap.size ≤ k_)) v0_ r ∧ Below w0.heap.size w0 w' ∧ Kept w w' (fun k_ => P0_ k_ ∨ P2_ k_) := by
  unfold slices_Insert_int.f at h
  obtain ⟨c1, c2, c3, c4, h⟩ : 0 ≤ a1 ∧ a1 ≤ (l0.length : Int) ∧ l2.length = 1 ∧ l0.length < 1099511627776 ∧ some (l0.take a1.toNat ++ l2 ++ l0.drop a1.toNat) = some r := by
    by_cases c1 : 0 ≤ a1
    · rw [if_pos c1] at h
      by_cases c2 : a1 ≤ (l0.length : Int)
      · rw [if_pos c2] at h
        by_cases c3 : l2.length = 1
        · rw [if_pos c3] at h
          by_cases c4 : l0.length < 1099511627776
          · rw [if_pos c4] at h
            exact ⟨c1, c2, c3, c4, h⟩
          · rw [if_neg c4] at h
            cases h
        · rw [if_neg c3] at h
          cases h
      · rw [if_neg c2] at h
        cases h
    · rw [if_neg c1] at h
      cases h
  obtain ⟨i, rfl⟩ : ∃ i : Nat, a1 = (i : Int) := ⟨a1.toNat, by omega⟩
  simp only [Option.some.injEq, Int.toNat_natCast] at h
  subst h
  have k0 := Kd.own_of_R ho0
  have k2 := Kd.own_of_R ho2
  have lt0 := k0.lt
  have lt2 := k2.lt
  have hb0 := ho0.1
  have hb2 := ho2.1
  have e0 : (encs (Value.int .i64) l0).length = l0.length := encs_length _
  have e2 : (encs (Value.int .i64) l2).length = l2.length := encs_length _
  refine (insert_core w w0.heap.size u9000_ u9001_ (encs (Value.int .i64) l0) (encs (Value.int .i64) l2) i (by rw [e0]; exact k0) (by rw [e2]; exact k2) hB.size (fun k h1 h2 => hp0_2 k (hb0 k h1) (hb2 k h2)) (by omega) (by omega) (by omega) ?_ ?_).mono ?_
  · intro v hv
    obtain ⟨x, _, rfl⟩ := List.mem_map.1 hv
    rfl
  · intro v hv
    obtain ⟨x, _, rfl⟩ := List.mem_map.1 hv
    rfl
  rintro e w' ⟨v1, rfl, hown, hg, hat⟩
  have hl : (l0.take i ++ l2 ++ l0.drop i).length = l0.length + 1 := by simp; omega
  have hown2 : w'.ownsRow w0.heap.size 3 1 v1 (l0.take i ++ l2 ++ l0.drop i).length (encs (Value.int .i64) (l0.take i ++ l2 ++ l0.drop i)) := by
    rw [hl, encs_append, encs_append]
    rw [e0] at hown
    simpa [encs, List.map_take, List.map_drop] using hown
  refine ⟨v1, rfl, Kd.R_of_own hown2 ?_, Below.grown hB hg hB.size (fun k hk => (lt0 k hk).1), Kept.of_grown hg (Kept.refl _ _) (fun k hk => .inl (.inl (hb0 k hk)))⟩
  · intro k hk
    rcases hat with hat | ⟨b, hb, hle⟩
    · rw [hat] at hk
      exact .inl (.inl (hb0 k hk))
    · rw [hb] at hk
      obtain rfl := Option.some.inj hk
      exact .inr hle

end Go.Proofs.Ythhomopijhopfaa.Hand
