-- This text was written by hand (wip/hand/Repeat.lean); Lean checks it.
import Derived.Test.YthhomopijhopfaaProg
import Derived.Below
import Derived.Deep.Draws
import Derived.Deep.AppendLies
import Derived.Maps.AppendAt
import Derived.OwnWalk
import Derived.Laws.BytesArg
import Derived.Laws.MakeOwn
import Derived.Laws.OwnMore
import Derived.Deep.OwnRows
import Derived.Tactics
import Derived.Lib.ConvBytes
import Derived.Laws.Slices
import Derived.WalkKit
import Derived.KernelRfl
import Derived.RowKit3
import Derived.Deep.LoopGhost
import Derived.Deep.QuietTactic
import Derived.BigQuiet
import Derived.WideLaws
import Derived.Deep.DeepCutAuto
import Derived.Deep.CutBlock
import Derived.Deep.RegionHeld3
import Derived.Laws.Rows
import Derived.Lib.AppendStr
import Derived.ArgAppend
import Derived.Laws.IdiomCopy
import Derived.OrdersHeld
import Derived.Laws.BitsLemmas
import Derived.RowKit
import Derived.Test.YthhomopijhopfaaBase
import Derived.Test.YthhomopijhopfaaWWords
import Derived.Test.YthhomopijhopfaaWLast
import Derived.Test.YthhomopijhopfaaWTab
import Derived.Test.YthhomopijhopfaaWFour
import Derived.Test.YthhomopijhopfaaWQPut
import Derived.Test.YthhomopijhopfaaWApart
import Derived.Test.YthhomopijhopfaaWArr
import Derived.Test.YthhomopijhopfaaWZeros
import Derived.Test.YthhomopijhopfaaWFoot
import Derived.Test.YthhomopijhopfaaWKept
import Derived.Test.YthhomopijhopfaaWShare
import Derived.Test.YthhomopijhopfaaWN
import Derived.Test.YthhomopijhopfaaWFootNe
import Derived.Test.YthhomopijhopfaaWAt
import Derived.Test.YthhomopijhopfaaWEqStruct
import Derived.Test.YthhomopijhopfaaWRepsOne
import Derived.Test.YthhomopijhopfaaWInv
import Derived.Test.YthhomopijhopfaaWInvWords
import Derived.Test.YthhomopijhopfaaWGuard
import Derived.Test.YthhomopijhopfaaWNEv
import Derived.Test.YthhomopijhopfaaWMore
import Derived.Laws.CopyOwn
import Derived.Lib.SlBuf
import Derived.Deep.RegionLaw
import Derived.Lib.MakeNoZero
namespace Go.Proofs.Ythhomopijhopfaa.Hand
open Go.RowKit Go.Proofs.YthhomopijhopfaaW.PrintWords Go.Proofs.YthhomopijhopfaaW.PrintLast Go.Proofs.YthhomopijhopfaaW.PrintMore
attribute [local go_sem] max2_int min2_int max_two min_two max_three min_three max_four min_four   -- for this text's walks alone
set_option linter.unusedVariables false
set_option linter.unusedSimpArgs false

-- import Derived.Laws.CopyOwn
-- import Derived.Lib.SlBuf
-- import Derived.Deep.RegionLaw
-- import Derived.Lib.MakeNoZero
/-! ### bits_Mul64: function 114 -/
def bits_Mul64.f (a0 : Int) (a1 : Int) : Option (Int × Int) := some (IntKind.u64.wrap ((IntKind.u64.wrap ((IntKind.u64.wrap ((a0 / 4294967296) * (a1 / 4294967296))) + ((IntKind.u64.wrap ((IntKind.u64.wrap ((a0 / 4294967296) * (Go.bits .and .u64 a1 4294967295))) + ((IntKind.u64.wrap ((Go.bits .and .u64 a0 4294967295) * (Go.bits .and .u64 a1 4294967295))) / 4294967296))) / 4294967296))) + ((IntKind.u64.wrap ((Go.bits .and .u64 (IntKind.u64.wrap ((IntKind.u64.wrap ((a0 / 4294967296) * (Go.bits .and .u64 a1 4294967295))) + ((IntKind.u64.wrap ((Go.bits .and .u64 a0 4294967295) * (Go.bits .and .u64 a1 4294967295))) / 4294967296))) 4294967295) + (IntKind.u64.wrap ((Go.bits .and .u64 a0 4294967295) * (a1 / 4294967296))))) / 4294967296)), IntKind.u64.wrap (a0 * a1))
set_option maxHeartbeats 8000000 in
set_option maxRecDepth 100000 in
theorem bits_Mul64.calls (a0 : Int) (a1 : Int) (r1 : Int) (r2 : Int) (w : World) (h : bits_Mul64.f a0 a1 = some (r1, r2)) :
    Calls Try.prog 114 #[.int .u64 a0, .int .u64 a1] w fun e w' => e = .returned (.tuple #[.int .u64 r1, .int .u64 r2]) ∧ Drawn0 w w' := by
  have H : (some (IntKind.u64.wrap ((IntKind.u64.wrap ((IntKind.u64.wrap ((a0 / 4294967296) * (a1 / 4294967296))) + ((IntKind.u64.wrap ((IntKind.u64.wrap ((a0 / 4294967296) * (Go.bits .and .u64 a1 4294967295))) + ((IntKind.u64.wrap ((Go.bits .and .u64 a0 4294967295) * (Go.bits .and .u64 a1 4294967295))) / 4294967296))) / 4294967296))) + ((IntKind.u64.wrap ((Go.bits .and .u64 (IntKind.u64.wrap ((IntKind.u64.wrap ((a0 / 4294967296) * (Go.bits .and .u64 a1 4294967295))) + ((IntKind.u64.wrap ((Go.bits .and .u64 a0 4294967295) * (Go.bits .and .u64 a1 4294967295))) / 4294967296))) 4294967295) + (IntKind.u64.wrap ((Go.bits .and .u64 a0 4294967295) * (a1 / 4294967296))))) / 4294967296)), IntKind.u64.wrap (a0 * a1))) = some (r1, r2) := h
  clear h
  simp only [Option.some.injEq, Prod.mk.injEq] at H
  obtain ⟨rfl, rfl⟩ := H
  go_enter Try.func114, Try.ntmps114
  go_wp2
  go_ret2
  exact ⟨by first | rfl | (simp; done) | (simp [*]; done), by repeat (first | exact Drawn0.refl _ | apply Drawn0.step)⟩

/-! ### bits_Mul: function 108 -/
def bits_Mul.f (a0 : Int) (a1 : Int) : Option (Int × Int) := (bits_Mul64.f a0 a1).bind fun bt129 => (some (bt129.1, bt129.2))
set_option maxHeartbeats 8000000 in
set_option maxRecDepth 100000 in
theorem bits_Mul.calls (a0 : Int) (a1 : Int) (r1 : Int) (r2 : Int) (w : World) (h : bits_Mul.f a0 a1 = some (r1, r2)) :
    Calls Try.prog 108 #[.int .u64 a0, .int .u64 a1] w fun e w' => e = .returned (.tuple #[.int .u64 r1, .int .u64 r2]) ∧ Drawn0 w w' := by
  have H : ((bits_Mul64.f a0 a1).bind fun bt129 => (some (bt129.1, bt129.2))) = some (r1, r2) := h
  clear h
  replace H := Option.bind_eq_some_iff.mp H
  obtain ⟨⟨t129, t130⟩, A30, H⟩ := H
  replace H : (some (t129, t130)) = some (r1, r2) := H
  have A3 := Aside0.mk A30
  clear A30
  simp only [Option.some.injEq, Prod.mk.injEq] at H
  obtain ⟨rfl, rfl⟩ := H
  go_enter Try.func108, Try.ntmps108
  go_wp2_with (first | ((with_reducible refine gate_callee (f := 114) rfl ?_); refine goesL_ (some 25) rfl rfl Try.func114 (by kernel_rfl) rfl #[.int .u64 a0, .int .u64 a1] rfl (by (try simp only [List.map_toArray, List.map_cons, List.map_nil]); first | done | rfl | (simp only [List.length_drop, List.length_take]; rfl)) ?_; (with_reducible refine (bits_Mul64.calls a0 a1 t129 t130 _ A3.out).mono ?_); rintro e w' ⟨rfl, ⟨nd, rfl⟩⟩; refine ⟨_, rfl, ?_⟩))
  go_ret2
  exact ⟨by first | rfl | (simp; done) | (simp [*]; done), by repeat (first | exact Drawn0.refl _ | apply Drawn0.step)⟩







theorem mul_one_small : ∀ n : Fin 101, bits_Mul.f 1 (n.val : Int) = some (0, (n.val : Int)) := by decide +kernel
/-! ### bytes_Repeat: function 103: by hand, for the one byte 255, up to 100 times -/
theorem step_copy_run {P : Program} {ops : Array Oper} {o : Oper} {a : Act} {w : World} {K : Act → World → Prop} {Q : Exit → Act → World → Prop} {E : Prop} (hgd : o.guard = none) (d s : Operand) (t t' : TypeId)
    (ho : o.op = .call { callee := .builtin .copy, args := #[d, s], argTypes := #[t, t'] }) (v u : Value) (hd : a.eval d = v) (hs : a.eval s = u) {v' : Value} {w' : World} (hr : (Builtin.copy_ #[t, t'] o.type #[v, u]).run P w = .ok v' w')
    (hK : K (a.put o.dst v') w') : if Region.wanted o (yielded ops a.tmps) = true then Oper.wp P o a w K Q else E := by
  have hw : Region.wanted o (yielded ops a.tmps) = true := by simp [Region.wanted, hgd]
  rw [if_pos hw]
  unfold Oper.wp
  simp [execOp, ho, resolve, invoke, builtin, hd, hs, hr, Result.andThen]
  exact hK
theorem bdn {B : Nat} {a w : World} (h : Below B a w) (q : Nat) : Below B a (w.drewN q) := ⟨h.os, h.tape, h.output, h.size, h.block⟩
structure Full (w wr : World) (g bp cap : Nat) : Prop where
  row : ∃ cur : Array Value, wr.heap[g]? = some (.cells cur 5 (0, 0)) ∧ cur.size = cap ∧ ∀ j, j < bp → cur[j]? = some (.int .u8 255)
  below : Below g w wr
theorem full_copy (w wr : World) (g bp m cap dLen dCap sLen sCap : Nat) (a : Addr) (hF : Full w wr g bp cap) (hm : m = Nat.min sLen dLen) (hfit : bp + m ≤ cap) (hsrc : ∀ j, j < m → wr.cell? (a.add j) = some (.int .u8 255)) :
    ∃ wr', (Builtin.copy_ #[22, 22] 3 #[.slice (some ⟨g, bp, none⟩) dLen dCap, .slice (some a) sLen sCap]).run Try.prog wr = .ok (.int .i64 (m : Int)) wr' ∧ Full w wr' g (bp + m) cap := by
  obtain ⟨⟨cur, hg, hs, hc⟩, hb⟩ := hF
  have hr := run_copy_row Try.prog wr 22 22 3 5 g bp dLen dCap a sLen sCap cur 5 (List.replicate m (.int .u8 255)) Try.underlying22 (by kernel_rfl) hg (by rw [List.length_replicate]; exact hm) (fun j v hj => by
      rw [List.getElem?_replicate] at hj
      split at hj
      · next hjm => cases hj; exact hsrc j hjm
      · cases hj) (by rw [List.length_replicate]; omega) (fun v hv => by rw [List.eq_of_mem_replicate hv]; rfl)
  rw [List.length_replicate] at hr
  refine ⟨_, hr, ⟨_, setRow_heap wr g _ _ _ _ hg, ?_, ?_⟩, below_setRow hb (Nat.le_refl _) _⟩
  · simp
    omega
  · intro j hj
    rw [List.getElem?_toArray]
    by_cases c : j < bp
    · rw [List.append_assoc, List.getElem?_append_left (by simp; omega), List.getElem?_take, if_pos c]
      simpa using hc j c
    · rw [List.append_assoc, List.getElem?_append_right (by simp; omega), List.getElem?_append_left (by simp; omega), List.getElem?_replicate, if_pos (by simp; omega)]
theorem Full.drew {w wr : World} {g bp cap : Nat} (h : Full w wr g bp cap) : Full w wr.drew g bp cap := ⟨h.row, below_drew1 h.below⟩
theorem Full.cell {w wr : World} {g bp cap : Nat} (h : Full w wr g bp cap) (j : Nat) (hj : j < bp) : wr.cell? ((⟨g, 0, none⟩ : Addr).add j) = some (.int .u8 255) := by
  obtain ⟨cur, hg, hs, hc⟩ := h.row
  rw [show (⟨g, 0, none⟩ : Addr).add j = ⟨g, j, none⟩ by unfold Addr.add; split <;> simp_all]
  simp [World.cell?, hg]
  simpa using hc j hj
def bytes_Repeat.f (l0 : List Int) (a1 : Int) : Option (List Int) := if l0 = [255] then (if 1 ≤ a1 then (if a1 ≤ 100 then some (List.replicate a1.toNat 255) else none) else none) else none
set_option maxHeartbeats 2000000 in
set_option maxRecDepth 100000 in
theorem bytes_Repeat.calls (A0 : Option Addr) (c0 : Nat) (l0 : List Int) (a1 : Int) (r : List Int) (w : World) (hr0 : Kd.C (Kd.int .u8) w A0 l0.length l0) (hc0 : l0.length ≤ c0) (h : bytes_Repeat.f l0 a1 = some r) :
    Calls Try.prog 103 #[.slice A0 l0.length c0, .int .i64 a1] w fun e w' => ∃ (A : Option Addr) (c : Nat), e = .returned (.slice A r.length c) ∧ Kd.C (Kd.int .u8) w' A r.length r ∧ r.length ≤ c ∧ Below w.heap.size w w' := by
  unfold bytes_Repeat.f at h
  obtain ⟨q0, q1, q2, hr⟩ : l0 = [255] ∧ 1 ≤ a1 ∧ a1 ≤ 100 ∧ some (List.replicate a1.toNat 255) = some r := by
    by_cases c0 : l0 = [255]
    · rw [if_pos c0] at h
      by_cases c1 : 1 ≤ a1
      · rw [if_pos c1] at h
        by_cases c2 : a1 ≤ 100
        · rw [if_pos c2] at h
          exact ⟨c0, c1, c2, h⟩
        · rw [if_neg c2] at h
          cases h
      · rw [if_neg c1] at h
        cases h
    · rw [if_neg c0] at h
      cases h
  subst q0
  obtain ⟨n, rfl⟩ : ∃ n : Nat, a1 = (n : Int) := ⟨a1.toNat, by omega⟩
  clear h
  obtain rfl := Option.some.inj hr
  clear hr
  obtain ⟨ad, rfl, hcell⟩ := hr0.2.2 (by simp)
  have hsrc : ∀ j, j < 1 → w.cell? (ad.add j) = some (.int .u8 255) := by
    intro j hj
    obtain rfl : j = 0 := by omega
    obtain ⟨c, _, hK, hcc⟩ := hcell 0 255 rfl
    have hK : c = [.int .u8 255] := hK
    subst hK
    simpa using hcc 0 _ rfl
  clear hcell hr0
  have hmul := fun W => bits_Mul.calls 1 (n : Int) 0 (n : Int) W (mul_one_small ⟨n, by omega⟩)
  have hM : ∀ W : World, ∃ cs : Array Value, (callFunc 109 #[.int .i64 (n : Int)]).run Try.prog W = .ok (.value (.slice (some ⟨W.heap.size, 0, none⟩) n cs.size)) ((W.alloc (.cells cs 5)).drewN 2) ∧ n ≤ cs.size ∧ cs.size ≤ maxLen := by
    intro W
    obtain ⟨cs, hrunM, hle, hmx⟩ := Lib.run_makeNoZero (P := Try.prog) W #[3] 22 5 Try.underlying22 n (by omega)
    refine ⟨cs, ?_, hle, hmx (by unfold maxLen; omega)⟩
    rw [run_callFunc_extern Try.func109 (by kernel_rfl) (by kernel_rfl) (by kernel_rfl) (e := Extern.BytealgMakeNoZero.makeNoZero #[3] #[22]) (by kernel_rfl), hrunM]
    rfl
  have hS : ∀ nd : Nat, ∃ (cs : Array Value) (w1 : World), (callFunc 109 #[.int .i64 (n : Int)]).run Try.prog (w.drewN nd) = .ok (.value (.slice (some ⟨w.heap.size, 0, none⟩) n cs.size)) (((w.drewN nd).alloc (.cells cs 5)).drewN 2) ∧ n ≤ cs.size ∧ cs.size ≤ maxLen ∧
      (Builtin.copy_ #[22, 22] 3 #[.slice (some ⟨w.heap.size, 0, none⟩) n n, .slice (some ad) 1 c0]).run Try.prog (((w.drewN nd).alloc (.cells cs 5)).drewN 2) = .ok (.int .i64 1) w1 ∧ Aside (Full w w1 w.heap.size 1 cs.size) := by
    intro nd
    obtain ⟨cs, hcall, hle, hmax⟩ := hM (w.drewN nd)
    have F0 : Full w (((w.drewN nd).alloc (.cells cs 5)).drewN 2) w.heap.size 0 cs.size := ⟨⟨cs, heap_alloc_new (w.drewN nd) _, rfl, fun j hj => absurd hj (by omega)⟩, bdn (below_alloc (bdn (Below.refl _ _) nd) _) 2⟩
    obtain ⟨w1, hr1, F1⟩ := full_copy w _ w.heap.size 0 1 cs.size n n 1 c0 ad F0 (by show 1 = min 1 n; omega) (by omega) (fun j hj => by
      have h1 := hsrc j hj
      have hlt : (ad.add j).block < w.heap.size := by
        rcases Nat.lt_or_ge (ad.add j).block w.heap.size with h | h
        · exact h
        · simp [World.cell?, Array.getElem?_eq_none h] at h1
      rw [F0.below.cell hlt]
      exact h1)
    exact ⟨cs, w1, hcall, hle, hmax, hr1, F1⟩
  have hn1 : (1 : Int) ≤ (n : Int) := q1
  have e0 : ((n : Int) == 0) = false := beq_eq_false_iff_ne.2 (by omega)
  have e1 : ¬ (n : Int) < 0 := by omega
  have ew : IntKind.u64.wrap (n : Int) = (n : Int) := by rw [IntKind.wrap_u64]; omega
  go_enter Try.func103, Try.ntmps103
  go_wp2_with (first
    | (go_at_call 108; refine (hmul _).mono ?_; rintro e W1 ⟨rfl, ⟨nd, rfl⟩⟩; obtain ⟨cs, w1, hcall, hle, hmax, hr1, F1⟩ := hS nd)
    | (at_builtin; refine Lib.wpList_copy_run _ rfl _ _ 22 22 rfl _ _ rfl rfl hr1 ?_))
  clear hmul hM hS hsrc hcall hr1
  go_loopg [10] n (fun gk v10 wr => ∃ i : Nat, 1 ≤ i ∧ i ≤ n ∧ gk = n + 1 - i ∧ v10 = .int .i64 (i : Int) ∧ Aside (Full w wr w.heap.size i cs.size))
  case atStart => exact ⟨1, by omega, by omega, by omega, rfl, F1⟩
  case round =>
    obtain ⟨i, hi1, hin, rfl, rfl, HF⟩ := hrel
    by_cases hlt : (i : Int) < (n : Int)
    · have hmin : min (i : Int) (n : Int) = (i : Int) := by omega
      have hsl1 : ∀ W, (Instr.slice 22 (.slice (some ⟨w.heap.size, 0, none⟩) n n) (some (.int .i64 (i : Int))) none none).run Try.prog W = .ok (.slice (some ⟨w.heap.size, i, none⟩) (n - i) (n - i)) W := fun W => by
        have := Lib.run_slice_tailV (P := Try.prog) W 22 5 Try.underlying22 Try.sizeOf5 w.heap.size n i hin
        unfold Lib.tailV at this
        rwa [if_neg (by omega)] at this
      obtain ⟨m, hm⟩ : ∃ m, m = Nat.min i (n - i) := ⟨_, rfl⟩
      have hm2 : m = min i (n - i) := hm
      obtain ⟨w2, hr2, F2⟩ := full_copy w _ w.heap.size i m cs.size (n - i) (n - i) i n ⟨w.heap.size, 0, none⟩ HF.out.drew hm (by omega) (fun j hj => HF.out.drew.cell j (by omega))
      have hma : 1 ≤ m ∧ i + m ≤ n := by omega
      have hwr : IntKind.i64.wrap ((i : Int) + (m : Int)) = (i : Int) + (m : Int) := by first | exact wrap_i64_id 62 (by decide) _ (by omega) (by omega) | (rw [IntKind.wrap_i64]; omega)
      have HF2 : Aside (Full w w2 w.heap.size (i + m) cs.size) := F2
      clear F2 hm hm2
      go_wp2
      go_region_law (refine step_copy_run rfl (.tmp 70) (.tmp 73) 22 22 rfl (.slice (some ⟨w.heap.size, i, none⟩) (n - i) (n - i)) (.slice (some ⟨w.heap.size, 0, none⟩) i n) (by simp [Act.eval, Act.put]) (by simp [Act.eval, Act.put]) hr2 ?_)
      all_goals
        go_wp2
        go_roundg (n + 1 - (i + m))
        case measure => omega
        case rel => exact ⟨i + m, by omega, by omega, rfl, by rw [Int.natCast_add], HF2⟩
    · obtain rfl : i = n := by omega
      go_wp2
      go_ret
      obtain ⟨⟨cur, hg, hs, hc⟩, hb⟩ := HF.out
      refine ⟨some ⟨w.heap.size, 0, none⟩, i, ?_, ?_, ?_, hb⟩
      · simp
      · refine ⟨by rw [List.length_replicate], by omega, fun _ => ⟨⟨w.heap.size, 0, none⟩, rfl, fun j p hp => ⟨[.int .u8 p], rfl, rfl, fun q u hu => ?_⟩⟩⟩
        rw [List.getElem?_replicate] at hp
        split at hp
        · next hj =>
          cases hp
          cases q with
          | zero =>
            cases hu
            have := HF.out.cell j hj
            rw [show j * (Kd.int IntKind.u8).sz + 0 = j from Nat.mul_one j]
            exact this
          | succ q => simp at hu
        · cases hp
      · exact Nat.le_refl _
theorem info5 : (Try.prog.info? 5).map (fun i => (i.zero, i.size, i.bytes)) = some (some (.int .u8 0), 1, 1) := by kernel_rfl
-- the values' own types

/-! ### impl_padded: function 88 -/
def impl_padded.f (l0 : List Int) (a1 : Int) : Option (List Int) := (some (([0, 1] : List Int) : List Int)).bind fun y129 => ((bytes_Repeat.f (([255] : List Int)) (wrap64 (a1 - 14))).bind fun t135 => (if y129.length + t135.length < 140737488355328 then ((some (y129 ++ t135 : List Int)).bind fun y138 => ((some (([0, 77, 1, 8] : List Int) : List Int)).bind fun y141 => (if y138.length + y141.length < 140737488355328 then ((some (y138 ++ y141 : List Int)).bind fun y144 => (if y144.length + l0.length < 140737488355328 then (some (y144 ++ l0)) else (none))) else (none)))) else (none)))
set_option maxHeartbeats 8000000 in
set_option maxRecDepth 100000 in
theorem impl_padded.calls (A0 : Option Addr) (c0 : Nat) (l0 : List Int) (a1 : Int) (r : List Int) (w : World) (hr0 : Kd.C (Kd.int .u8) w A0 l0.length l0) (hc0 : l0.length ≤ c0) (h : impl_padded.f l0 a1 = some r) :
    Calls Try.prog 88 #[.slice A0 l0.length c0, .int .i64 a1] w fun e w' => ∃ v0_ : Value, e = .returned (v0_) ∧ Kd.R (Kd.int .u8) 5 w' w.heap.size (fun _ => True) v0_ r ∧ Below w.heap.size w w' := by
  have HR0 := Aside0.mk hr0
  have HC0 := Aside0.mk hc0
  clear hr0 hc0
  have HB := Aside0.mk (Below.refl w.heap.size w)
  have H : ((some (([0, 1] : List Int) : List Int)).bind fun y129 => ((bytes_Repeat.f (([255] : List Int)) (wrap64 (a1 - 14))).bind fun t135 => (if y129.length + t135.length < 140737488355328 then ((some (y129 ++ t135 : List Int)).bind fun y138 => ((some (([0, 77, 1, 8] : List Int) : List Int)).bind fun y141 => (if y138.length + y141.length < 140737488355328 then ((some (y138 ++ y141 : List Int)).bind fun y144 => (if y144.length + l0.length < 140737488355328 then (some (y144 ++ l0)) else (none))) else (none)))) else (none)))) = some r := h
  clear h
  obtain ⟨y129, hy129⟩ : ∃ y_ : List Int, y_ = (([0, 1] : List Int)) := ⟨_, rfl⟩
  replace H : ((bytes_Repeat.f (([255] : List Int)) (wrap64 (a1 - 14))).bind fun t135 => (if y129.length + t135.length < 140737488355328 then ((some (y129 ++ t135 : List Int)).bind fun y138 => ((some (([0, 77, 1, 8] : List Int) : List Int)).bind fun y141 => (if y138.length + y141.length < 140737488355328 then ((some (y138 ++ y141 : List Int)).bind fun y144 => (if y144.length + l0.length < 140737488355328 then (some (y144 ++ l0)) else (none))) else (none)))) else (none))) = some r := by first | (rw [hy129]; with_reducible exact H) | (have H2_ := (Option.bind_some _ _).symm.trans H; rw [hy129]; with_reducible exact H2_) | (have H2_ := (Option.bind_some _ _).symm.trans H; with_reducible exact H2_) | with_reducible exact H | (rw [hy129]; exact H) | exact H
  have Ny129 := Aside0.mk hy129
  clear hy129
  obtain ⟨y132, hy132⟩ : ∃ y_ : List Int, y_ = (([255] : List Int)) := ⟨_, rfl⟩
  replace H : ((bytes_Repeat.f y132 (wrap64 (a1 - 14))).bind fun t135 => (if y129.length + t135.length < 140737488355328 then ((some (y129 ++ t135 : List Int)).bind fun y138 => ((some (([0, 77, 1, 8] : List Int) : List Int)).bind fun y141 => (if y138.length + y141.length < 140737488355328 then ((some (y138 ++ y141 : List Int)).bind fun y144 => (if y144.length + l0.length < 140737488355328 then (some (y144 ++ l0)) else (none))) else (none)))) else (none))) = some r := by first | (rw [hy132]; with_reducible exact H) | (have H2_ := (Option.bind_some _ _).symm.trans H; rw [hy132]; with_reducible exact H2_) | (have H2_ := (Option.bind_some _ _).symm.trans H; with_reducible exact H2_) | with_reducible exact H | (rw [hy132]; exact H) | exact H
  have Ny132 := Aside0.mk hy132
  clear hy132
  replace H := Option.bind_eq_some_iff.mp H
  obtain ⟨t135, A30, H⟩ := H
  replace H : (if y129.length + t135.length < 140737488355328 then ((some (y129 ++ t135 : List Int)).bind fun y138 => ((some (([0, 77, 1, 8] : List Int) : List Int)).bind fun y141 => (if y138.length + y141.length < 140737488355328 then ((some (y138 ++ y141 : List Int)).bind fun y144 => (if y144.length + l0.length < 140737488355328 then (some (y144 ++ l0)) else (none))) else (none)))) else (none)) = some r := H
  have A3 := Aside0.mk A30
  clear A30
  by_cases c4 : y129.length + t135.length < 140737488355328
  · rw [if_pos c4] at H
    have LMc4 := Aside0.mk c4
    clear c4
    obtain ⟨y138, hy138⟩ : ∃ y_ : List Int, y_ = (y129 ++ t135) := ⟨_, rfl⟩
    replace H : ((some (([0, 77, 1, 8] : List Int) : List Int)).bind fun y141 => (if y138.length + y141.length < 140737488355328 then ((some (y138 ++ y141 : List Int)).bind fun y144 => (if y144.length + l0.length < 140737488355328 then (some (y144 ++ l0)) else (none))) else (none))) = some r := by first | (rw [hy138]; with_reducible exact H) | (have H2_ := (Option.bind_some _ _).symm.trans H; rw [hy138]; with_reducible exact H2_) | (have H2_ := (Option.bind_some _ _).symm.trans H; with_reducible exact H2_) | with_reducible exact H | (rw [hy138]; exact H) | exact H
    have Ny138 := Aside0.mk hy138
    clear hy138
    obtain ⟨y141, hy141⟩ : ∃ y_ : List Int, y_ = (([0, 77, 1, 8] : List Int)) := ⟨_, rfl⟩
    replace H : (if y138.length + y141.length < 140737488355328 then ((some (y138 ++ y141 : List Int)).bind fun y144 => (if y144.length + l0.length < 140737488355328 then (some (y144 ++ l0)) else (none))) else (none)) = some r := by first | (rw [hy141]; with_reducible exact H) | (have H2_ := (Option.bind_some _ _).symm.trans H; rw [hy141]; with_reducible exact H2_) | (have H2_ := (Option.bind_some _ _).symm.trans H; with_reducible exact H2_) | with_reducible exact H | (rw [hy141]; exact H) | exact H
    have Ny141 := Aside0.mk hy141
    clear hy141
    by_cases c5 : y138.length + y141.length < 140737488355328
    · rw [if_pos c5] at H
      have LMc5 := Aside0.mk c5
      clear c5
      obtain ⟨y144, hy144⟩ : ∃ y_ : List Int, y_ = (y138 ++ y141) := ⟨_, rfl⟩
      replace H : (if y144.length + l0.length < 140737488355328 then (some (y144 ++ l0)) else (none)) = some r := by first | (rw [hy144]; with_reducible exact H) | (have H2_ := (Option.bind_some _ _).symm.trans H; rw [hy144]; with_reducible exact H2_) | (have H2_ := (Option.bind_some _ _).symm.trans H; with_reducible exact H2_) | with_reducible exact H | (rw [hy144]; exact H) | exact H
      have Ny144 := Aside0.mk hy144
      clear hy144
      by_cases c6 : y144.length + l0.length < 140737488355328
      · rw [if_pos c6] at H
        have LMc6 := Aside0.mk c6
        clear c6
        obtain ⟨y147, hy147⟩ : ∃ y_ : List Int, y_ = (y144 ++ l0) := ⟨_, rfl⟩
        replace H : (some y147) = some r := by first | (rw [hy147]; with_reducible exact H) | (have H2_ := (Option.bind_some _ _).symm.trans H; rw [hy147]; with_reducible exact H2_) | (have H2_ := (Option.bind_some _ _).symm.trans H; with_reducible exact H2_) | with_reducible exact H | (rw [hy147]; exact H) | exact H
        have Ny147 := Aside0.mk hy147
        clear hy147
        obtain rfl := Option.some.inj H
        go_enter Try.func88, Try.ntmps88
        go_wp2_with (first | ((with_reducible refine gate_dst (N := 6) rfl ?_); refine Kd.R_lit (Kd.int .u8) _ 5 ?hg (N := 6) ?hd (xs := ([0, 1] : List Int)) (inner := [.int .u8 0, .int .u8 1]) (ok := fun _ => True) (okp := fun _ => True) ?hr ?hp (fun _ hk => hk) trivial (Below.refl _ _) (Nat.le_refl _) (by simp) ?_; (case hd => rfl); (case hg => rfl); (case hr => first | (go_simp; done) | (go_simp; rfl)); (case hp => exact (Reps.one (show Kd.M (Kd.int .u8) _ _ _ 0 [.int .u8 0] from rfl) (Reps.one (show Kd.M (Kd.int .u8) _ _ _ 1 [.int .u8 1] from rfl) (Reps.none _ _)))); intro v130 w7 ho8 hb hg_ hnew_; clear hg_ hnew_; (first | rw [← Ny129.out] at ho8 | (simp only [Int.reduceToNat] at ho8; rw [← Ny129.out] at ho8)); have n1_ := Aside0.mk (Kd.R_lower ho8 (below_size (by repeat (first | (with_reducible first | exact HB.out | apply below_alloc | apply pw_below_drewN | apply below_drew1) | exact HB.out)))); have n2_ := Aside0.mk (below_step (by repeat (first | (with_reducible first | exact HB.out | apply below_alloc | apply pw_below_drewN | apply below_drew1) | exact HB.out)) hb); clear HB; have HO131 := n1_; have HB := n2_; clear n1_ n2_; clear hb ho8) | ((with_reducible refine gate_dst (N := 7) rfl ?_); refine Kd.R_lit (Kd.int .u8) _ 5 ?hg (N := 7) ?hd (xs := ([255] : List Int)) (inner := [.int .u8 255]) (ok := fun _ => True) (okp := fun _ => True) ?hr ?hp (fun _ hk => hk) trivial (Below.refl _ _) (Nat.le_refl _) (by simp) ?_; (case hd => rfl); (case hg => rfl); (case hr => first | (go_simp; done) | (go_simp; rfl)); (case hp => exact (Reps.one (show Kd.M (Kd.int .u8) _ _ _ 255 [.int .u8 255] from rfl) (Reps.none _ _))); intro v133 w7 ho8 hb hg_ hnew_; clear hg_ hnew_; (first | rw [← Ny132.out] at ho8 | (simp only [Int.reduceToNat] at ho8; rw [← Ny132.out] at ho8)); have mHO131_ := Aside0.mk (Kd.R_below (by (with_reducible repeat (first | apply Kd.R_alloc | apply Kd.R_drewN | apply Kd.R_drew)); exact HO131.out) hb); have n1_ := Aside0.mk (Kd.R_lower ho8 (below_size (by repeat (first | (with_reducible first | exact HB.out | apply below_alloc | apply pw_below_drewN | apply below_drew1) | exact HB.out)))); have n2_ := Aside0.mk (below_step (by repeat (first | (with_reducible first | exact HB.out | apply below_alloc | apply pw_below_drewN | apply below_drew1) | exact HB.out)) hb); clear HO131; clear HB; have HO131 := mHO131_; have HO134 := n1_; have HB := n2_; clear n1_ n2_; clear mHO131_; clear hb ho8; obtain ⟨Ao11, co11, eo11⟩ := Kd.R_slice HO134.out; subst eo11) | ((with_reducible refine gate_callee (f := 103) rfl ?_); refine goesL_ (some 10) rfl rfl Try.func103 (by kernel_rfl) rfl #[.slice Ao11 y132.length co11, .int .i64 (wrap64 (a1 - 14))] rfl (by (try simp only [List.map_toArray, List.map_cons, List.map_nil]); first | done | rfl | (simp only [List.length_drop, List.length_take]; rfl)) ?_; (with_reducible refine (bytes_Repeat.calls _ _ y132 (wrap64 (a1 - 14)) t135 _ ?side1 ?side2 A3.out).mono ?_); (case side1 => repeat (first | exact (Kd.R_reads' HO134.out).2.2 | (with_reducible refine Kd.C_alloc ?_ _) | (with_reducible refine Kd.C_drewN ?_ _) | (with_reducible refine Kd.C_drew ?_))); (case side2 => exact (Kd.R_reads' HO134.out).2.1); rintro e w12 ⟨A14, c14, rfl, hC, hcc, hb⟩; refine ⟨_, rfl, ?_⟩; have n0_ := Aside0.mk (Kd.R_below (by (with_reducible repeat (first | apply Kd.R_alloc | apply Kd.R_drewN | apply Kd.R_drew)); exact HO131.out) hb); have n3_ := Aside0.mk (below_step (by repeat (first | (with_reducible first | exact HB.out | apply below_alloc | apply pw_below_drewN | apply below_drew1) | exact HB.out)) hb); clear HO131; clear HO134; clear HB; have HO131 := n0_; have HC14 := Aside0.mk hC; have HB := n3_; clear n0_ n3_; clear hb hC) | ((with_reducible refine gate_builtin (b := .append) (xs := #[.tmp 6, .tmp 10]) rfl ?_); at_builtin; refine Kd.R_append_rows (Kd.int .u8) (w0 := w) w.heap.size rfl (.tmp 6) (.tmp 10) 22 5 (.int .u8 0) 1 rfl Try.underlying22 info5 rfl (by decide) (by omega) v130 y129 t135 _ _ _ (fun k_ => True) (fun _ => False) rfl rfl ?aO ?aR (fun _ _ h => h) (fun _ h => h.elim) ?aF ?aB ?aS ?aL ?_; (case aR => repeat (first | exact HC14.out | (with_reducible refine Kd.C_alloc ?_ _) | (with_reducible refine Kd.C_drewN ?_ _) | (with_reducible refine Kd.C_drew ?_))); (case aB => exact (by repeat (first | (with_reducible first | exact HB.out | apply below_alloc | apply pw_below_drewN | apply below_drew1) | exact HB.out))); (case aF => exact (fun k_ hk => trivial)); (case aO => exact (by (with_reducible repeat (first | apply Kd.R_alloc | apply Kd.R_drewN | apply Kd.R_drew)); exact Kd.R_mono HO131.out (fun _ hk => trivial))); (case aS => exact (below_size (by repeat (first | (with_reducible first | exact HB.out | apply below_alloc | apply pw_below_drewN | apply below_drew1) | exact HB.out)))); (case aL => have := LMc4.out; omega); intro v139 w13 ho hb hg hat; rw [← Ny138.out] at ho; have n2_ := Aside0.mk (hb); have n3_ := Aside0.mk (ho); clear HB; clear HO131; have HB := n2_; have HO140 := n3_; clear n2_ n3_; clear ho hb hg hat) | ((with_reducible refine gate_dst (N := 13) rfl ?_); refine Kd.R_lit (Kd.int .u8) _ 5 ?hg (N := 13) ?hd (xs := ([0, 77, 1, 8] : List Int)) (inner := [.int .u8 0, .int .u8 77, .int .u8 1, .int .u8 8]) (ok := fun _ => True) (okp := fun _ => True) ?hr ?hp (fun _ hk => hk) trivial (Below.refl _ _) (Nat.le_refl _) (by simp) ?_; (case hd => rfl); (case hg => rfl); (case hr => first | (go_simp; done) | (go_simp; rfl)); (case hp => exact (Reps.one (show Kd.M (Kd.int .u8) _ _ _ 0 [.int .u8 0] from rfl) (Reps.one (show Kd.M (Kd.int .u8) _ _ _ 77 [.int .u8 77] from rfl) (Reps.one (show Kd.M (Kd.int .u8) _ _ _ 1 [.int .u8 1] from rfl) (Reps.one (show Kd.M (Kd.int .u8) _ _ _ 8 [.int .u8 8] from rfl) (Reps.none _ _)))))); intro v142 w7 ho8 hb hg_ hnew_; clear hg_ hnew_; (first | rw [← Ny141.out] at ho8 | (simp only [Int.reduceToNat] at ho8; rw [← Ny141.out] at ho8)); have mHO140_ := Aside0.mk (Kd.R_below (by (with_reducible repeat (first | apply Kd.R_alloc | apply Kd.R_drewN | apply Kd.R_drew)); exact HO140.out) hb); have n1_ := Aside0.mk (Kd.R_lower ho8 (below_size (by repeat (first | (with_reducible first | exact HB.out | apply below_alloc | apply pw_below_drewN | apply below_drew1) | exact HB.out)))); have n2_ := Aside0.mk (below_step (by repeat (first | (with_reducible first | exact HB.out | apply below_alloc | apply pw_below_drewN | apply below_drew1) | exact HB.out)) hb); clear HO140; clear HB; have HO140 := mHO140_; have HO143 := n1_; have HB := n2_; clear n1_ n2_; clear mHO140_; clear hb ho8; obtain ⟨Ao18, co18, eo18⟩ := Kd.R_slice HO143.out; subst eo18) | ((with_reducible refine gate_builtin (b := .append) (xs := #[.tmp 12, .tmp 13]) rfl ?_); at_builtin; refine Kd.R_append_rows (Kd.int .u8) (w0 := w) w.heap.size rfl (.tmp 12) (.tmp 13) 22 5 (.int .u8 0) 1 rfl Try.underlying22 info5 rfl (by decide) (by omega) v139 y138 y141 _ _ _ (fun k_ => True) (fun _ => False) rfl rfl ?aO ?aR (fun _ _ h => h) (fun _ h => h.elim) ?aF ?aB ?aS ?aL ?_; (case aR => repeat (first | exact (Kd.R_reads' HO143.out).2.2 | (with_reducible refine Kd.C_alloc ?_ _) | (with_reducible refine Kd.C_drewN ?_ _) | (with_reducible refine Kd.C_drew ?_))); (case aB => exact (by repeat (first | (with_reducible first | exact HB.out | apply below_alloc | apply pw_below_drewN | apply below_drew1) | exact HB.out))); (case aF => exact (fun k_ hk => trivial)); (case aO => exact (by (with_reducible repeat (first | apply Kd.R_alloc | apply Kd.R_drewN | apply Kd.R_drew)); exact Kd.R_mono HO140.out (fun _ hk => trivial))); (case aS => exact (below_size (by repeat (first | (with_reducible first | exact HB.out | apply below_alloc | apply pw_below_drewN | apply below_drew1) | exact HB.out)))); (case aL => have := LMc5.out; omega); intro v145 w13 ho hb hg hat; rw [← Ny144.out] at ho; have n2_ := Aside0.mk (hb); have n3_ := Aside0.mk (ho); clear HB; clear HO140; have HB := n2_; have HO146 := n3_; clear n2_ n3_; clear ho hb hg hat) | ((with_reducible refine gate_builtin (b := .append) (xs := #[.tmp 14, .tmp 15]) rfl ?_); at_builtin; refine Kd.R_append_rows (Kd.int .u8) (w0 := w) w.heap.size rfl (.tmp 14) (.tmp 15) 22 5 (.int .u8 0) 1 rfl Try.underlying22 info5 rfl (by decide) (by omega) v145 y144 l0 _ _ _ (fun k_ => True) (fun _ => False) rfl rfl ?aO ?aR (fun _ _ h => h) (fun _ h => h.elim) ?aF ?aB ?aS ?aL ?_; (case aR => repeat (first | exact (Kd.C_below HR0.out HB.out) | (with_reducible refine Kd.C_alloc ?_ _) | (with_reducible refine Kd.C_drewN ?_ _) | (with_reducible refine Kd.C_drew ?_))); (case aB => exact (by repeat (first | (with_reducible first | exact HB.out | apply below_alloc | apply pw_below_drewN | apply below_drew1) | exact HB.out))); (case aF => exact (fun k_ hk => trivial)); (case aO => exact (by (with_reducible repeat (first | apply Kd.R_alloc | apply Kd.R_drewN | apply Kd.R_drew)); exact Kd.R_mono HO146.out (fun _ hk => trivial))); (case aS => exact (below_size (by repeat (first | (with_reducible first | exact HB.out | apply below_alloc | apply pw_below_drewN | apply below_drew1) | exact HB.out)))); (case aL => have := LMc6.out; omega); intro v148 w13 ho hb hg hat; rw [← Ny147.out] at ho; have n2_ := Aside0.mk (hb); have n3_ := Aside0.mk (ho); clear HB; clear HO146; have HB := n2_; have HO149 := n3_; clear n2_ n3_; clear ho hb hg hat))
        go_ret
        exact ⟨_, by first | rfl | (simp [errW_none, errW_some] <;> rfl) | (simp [*, errW_none, errW_some] <;> rfl), by (with_reducible repeat (first | apply Kd.R_alloc | apply Kd.R_drewN | apply Kd.R_drew)); exact Kd.R_mono HO149.out (fun _ hk => trivial), by repeat (first | (with_reducible first | exact HB.out | apply below_alloc | apply pw_below_drewN | apply below_drew1) | exact HB.out)⟩
      · rw [if_neg c6] at H
        exact absurd H (by simp)
    · rw [if_neg c5] at H
      exact absurd H (by simp)
  · rw [if_neg c4] at H
    exact absurd H (by simp)


end Go.Proofs.Ythhomopijhopfaa.Hand
