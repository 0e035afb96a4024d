import Derived.Test.YtgfhbkhbnmgogaaGFnExactHmacSha
import Derived.Lib.SliceRun
namespace Go.Proofs.Ytgfhbkhbnmgogaa.GFnExactHmac.Hand
open Go.RowKit Go.Proofs.YtgfhbkhbnmgogaaW.PrintWords Go.Proofs.YtgfhbkhbnmgogaaW.PrintLast Go.Proofs.YtgfhbkhbnmgogaaW.PrintMore
set_option linter.unusedVariables false
set_option linter.unusedSimpArgs false
/-! ### slices.Clone (31), slices.Grow (58), slices.Concat (32) of bytes -/
set_option maxHeartbeats 2000000 in
set_option maxRecDepth 100000 in
theorem clone_some (ad : Addr) (c : Nat) (xs : List Int) (w : World) (hC : (Kd.int .u8).C w (some ad) xs.length xs) (hl : xs.length ≤ 1048576) :
    Calls Try.prog 31 #[.slice (some ad) xs.length c] w fun e w' => ∃ v, e = .returned v ∧ (Kd.int .u8).R 5 w' w.heap.size (fun _ => True) v xs ∧ Below w.heap.size w w' := by
  have HR := Aside0.mk hC
  clear hC
  have HB := Aside0.mk (Below.refl w.heap.size w)
  have he : ∀ W : World, (binOp .eql 22 (.slice (some ad) xs.length c) (.slice none 0 0)).run Try.prog W = .ok (.bool false) W := fun W => Go.Lib.run_eql_slice_nil W 22 5 (some ad) xs.length c 0 0 Try.underlying22
  go_enter Try.func31, Try.ntmps31
  go_wp2_with (first | ((with_reducible refine gate_dst (N := 5) rfl ?_); refine Kd.R_lit (Kd.int .u8) _ 5 ?hg (N := 5) ?hd (xs := ([] : List Int)) (inner := []) (ok := fun _ => True) (okp := fun _ => True) ?hr ?hp (fun _ hk => hk) trivial (Below.refl _ _) (Nat.le_refl _) (by simp) ?_; (case hd => rfl); (case hg => rfl); (case hr => first | (go_simp; done) | (go_simp; rfl)); (case hp => exact (Reps.none _ _)); intro v144 w3 ho4 hb hg_ hnew_; clear hg_ hnew_; have HO145 := Aside0.mk ho4; have HB1 := Aside0.mk hb; clear hb ho4) | ((with_reducible refine gate_builtin (b := .append) (xs := #[.tmp 5, .tmp 6]) rfl ?_); at_builtin; refine Kd.R_append_rows (Kd.int .u8) (w0 := w) w.heap.size rfl (.tmp 5) (.tmp 6) 22 5 (.int .u8 0) 1 rfl Try.underlying22 info5 rfl (by decide) (by omega) v144 [] xs _ _ _ (fun _ => True) (fun _ => False) rfl rfl HO145.out ?aR (fun _ _ h => h) (fun _ h => h.elim) (fun _ _ => trivial) HB1.out HB1.out.size ?aL ?_; (case aR => exact Kd.C_below HR.out HB1.out); (case aL => simp; omega); intro v147 w5 ho hb hg hat; have HO := Aside0.mk ho; have HB5 := Aside0.mk hb; clear ho hb hg hat))
  go_ret
  exact ⟨_, rfl, HO.out, HB5.out⟩
set_option maxHeartbeats 2000000 in
set_option maxRecDepth 100000 in
theorem clone_none (c : Nat) (w : World) :
    Calls Try.prog 31 #[.slice none 0 c] w fun e w' => e = .returned (.slice none 0 0) ∧ w = w' := by
  have he : ∀ W : World, (binOp .eql 22 (.slice none 0 c) (.slice none 0 0)).run Try.prog W = .ok (.bool true) W := fun W => Go.Lib.run_eql_slice_nil W 22 5 none 0 c 0 0 Try.underlying22
  go_enter Try.func31, Try.ntmps31
  go_wp2
  go_ret
  exact ⟨rfl, rfl⟩
theorem clone_calls (A : Option Addr) (n c : Nat) (xs : List Int) (w : World) (hC : (Kd.int .u8).C w A n xs) (hn : xs.length = n) (hl : n ≤ 1048576) :
    Calls Try.prog 31 #[.slice A n c] w fun e w' => ∃ (A' : Option Addr) (c' : Nat), e = .returned (.slice A' n c') ∧ (Kd.int .u8).R 5 w' w.heap.size (fun _ => True) (.slice A' n c') xs ∧ Below w.heap.size w w' := by
  subst hn
  cases A with
  | some ad =>
    refine (clone_some ad c xs w hC hl).mono ?_
    rintro e w' ⟨v, rfl, ho, hb⟩
    obtain ⟨A', c', rfl⟩ := Kd.R_slice ho
    exact ⟨A', c', rfl, ho, hb⟩
  | none =>
    have : xs = [] := by
      cases xs with
      | nil => rfl
      | cons a t =>
        obtain ⟨ad, e, _⟩ := hC.2.2 (by simp)
        cases e
    subst this
    refine (clone_none c w).mono ?_
    rintro e w' ⟨rfl, rfl⟩
    exact ⟨none, 0, rfl, Kd.R_nil _ _ _ _ _, Below.refl _ _⟩
set_option maxHeartbeats 2000000 in
set_option maxRecDepth 100000 in
theorem grow_calls (n : Nat) (w : World) (hl : n ≤ 1048576) :
    Calls Try.prog 58 #[.slice none 0 0, .int .i64 (n : Int)] w fun e w' => ∃ (A : Option Addr) (c : Nat), e = .returned (.slice A 0 c) ∧ (Kd.int .u8).R 5 w' w.heap.size (fun _ => True) (.slice A 0 c) [] ∧ Below w.heap.size w w' := by
  by_cases h0 : n = 0
  · subst h0
    go_enter Try.func58, Try.ntmps58
    go_wp2
    go_ret
    exact ⟨none, 0, rfl, Kd.R_nil _ _ _ _ _, Below.refl _ _⟩
  · obtain ⟨i5, hi5, _⟩ := Option.map_eq_some_iff.1 info5
    have hc0 := cut_to (P := Try.prog) 22 5 .i64 Try.underlying22 hi5 none 0 0 0 (by omega) (by omega) (by omega)
    have hc1 : ∀ (A : Option Addr) (c : Nat), n ≤ c → ∀ W : World, (Instr.slice 22 (.slice A n c) none (some (.int .i64 0)) none).run Try.prog W = .ok (.slice A 0 c) W := fun A c h => cut_to (P := Try.prog) 22 5 .i64 Try.underlying22 hi5 A n c 0 (by omega) (by omega) h
    have HC1 := Aside0.mk hc1
    clear hi5 hc1
    have hnp : 0 < (n : Int) := by omega
    go_enter Try.func58, Try.ntmps58
    go_wp2_with ((with_reducible refine gate_builtin (b := .append) (xs := #[.tmp 20, .tmp 21]) rfl ?_); at_builtin; refine Kd.R_append_zeros (Kd.int .u8) (w0 := w) w.heap.size rfl (.tmp 20) (.tmp 21) 22 3 5 (.int .u8 0) 1 rfl Try.underlying22 Try.underlying3 info5 rfl (by decide) (by omega) (.slice none 0 0) [] 0 (n : Int) (fun _ => True) rfl rfl rfl (fun _ _ => trivial) (Kd.R_nil _ _ _ _ _) (by omega) (Below.refl _ _) (Nat.le_refl _) (by simp; omega) ?_; intro v9 w9 ho hb hg hat; (obtain ⟨A9, c9, e9⟩ := Kd.R_slice ho); subst e9; (have hr9 := (Kd.R_reads' ho).2.1); (have he9 : (([] : List Int) ++ List.replicate (n : Int).toNat 0).length = n := by simp); rw [he9] at ho hr9 ⊢; have hc1 := HC1.out A9 c9 hr9; have HO := Aside0.mk ho; have HB := Aside0.mk hb; clear ho hb hg hat)
    go_ret
    exact ⟨A9, c9, rfl, Kd.R_take (m := 0) HO.out (by omega), HB.out⟩
set_option maxHeartbeats 4000000 in
set_option maxRecDepth 100000 in
theorem concat_calls (g : Nat) (A1 : Option Addr) (n1 c1 : Nat) (xs : List Int) (A2 : Option Addr) (n2 c2 : Nat) (ys : List Int) (w : World) (hg : w.heap[g]? = some (.cells #[.slice A1 n1 c1, .slice A2 n2 c2] 22 (0, 0))) (h1 : (Kd.int .u8).C w A1 n1 xs) (e1 : xs.length = n1) (h2 : (Kd.int .u8).C w A2 n2 ys) (e2 : ys.length = n2) (l1 : n1 ≤ 100000) (l2 : n2 ≤ 100000) :
    Calls Try.prog 32 #[.slice (some ⟨g, 0, none⟩) 2 2] w fun e w' => ∃ (A : Option Addr) (c : Nat), e = .returned (.slice A (n1 + n2) c) ∧ (Kd.int .u8).R 5 w' w.heap.size (fun _ => True) (.slice A (n1 + n2) c) (xs ++ ys) ∧ Below w.heap.size w w' := by
  have c0 := cell_at hg 0
  have c1' := cell_at hg 1
  replace c0 : w.cell? ⟨g, 0, none⟩ = some (.slice A1 n1 c1) := c0
  replace c1' : w.cell? ⟨g, 1, none⟩ = some (.slice A2 n2 c2) := c1'
  have H1 := Aside0.mk h1
  have H2 := Aside0.mk h2
  have E1 := Aside0.mk e1
  have E2 := Aside0.mk e2
  have HG := Aside0.mk hg
  clear h1 h2 e1 e2 hg
  go_enter Try.func32, Try.ntmps32
  go_wp2
  go_loopg [3, 11] 2 (fun gk v3 v11 wr => ∃ i : Nat, i + gk = 2 ∧ v11 = .int .i64 (i : Int) ∧ v3 = .int .i64 (((if i = 0 then 0 else if i = 1 then n1 else n1 + n2 : Nat) : Nat) : Int) ∧ wr = w)
  case atStart => exact ⟨0, rfl, rfl, rfl, rfl⟩
  case round =>
    obtain ⟨i, hi, rfl, rfl, hw⟩ := hrel
    obtain rfl := hw.symm
    clear hw
    match i, hi with
    | 0, hi =>
      go_wp2
      go_roundg 1
      case measure => omega
      case rel => exact ⟨1, rfl, by go_num, by simp, rfl⟩
    | 1, hi =>
      go_wp2
      go_roundg 0
      case measure => omega
      case rel => exact ⟨2, rfl, by go_num, by simp, rfl⟩
    | 2, hi =>
      have hgr := grow_calls (n1 + n2) w (by omega)
      rw [Int.natCast_add] at hgr
      have HGR := Aside0.mk hgr
      clear hgr
      go_wp2_with fail
      refine HGR.out.mono ?_
      rintro e w1 ⟨A, c, rfl, ho, hb⟩
      have HO := Aside0.mk ho
      have HB := Aside0.mk hb
      clear ho hb HGR
      go_wp2
      go_loopg [6, 27] 2 (fun gk v6 v27 w2 => ∃ (i : Nat) (A : Option Addr) (c : Nat), i + gk = 2 ∧ v27 = .int .i64 (i : Int) ∧ v6 = .slice A (if i = 0 then 0 else if i = 1 then n1 else n1 + n2) c ∧ Aside0 ((Kd.int .u8).R 5 w2 w.heap.size (fun _ => True) (.slice A (if i = 0 then 0 else if i = 1 then n1 else n1 + n2) c) (if i = 0 then [] else if i = 1 then xs else xs ++ ys)) ∧ Aside0 (Below w.heap.size w w2))
      case atStart => exact ⟨0, A, c, rfl, rfl, rfl, HO, HB⟩
      case round =>
        clear HO HB
        obtain ⟨i, A, c, hi, rfl, rfl, HO, HB⟩ := hrel
        match i, hi, HO with
        | 0, hi, HO =>
          have HO1 : Aside0 ((Kd.int .u8).R 5 wr w.heap.size (fun _ => True) (.slice A 0 c) []) := HO
          clear HO
          have d0 := (HB.out.cell (World.block_lt_of_cell? _ _ c0)).trans c0
          go_wp2_with ((with_reducible refine gate_builtin (b := .append) (xs := #[.tmp 31, .tmp 32]) rfl ?_); at_builtin; refine Kd.R_append_rows (Kd.int .u8) (w0 := w) w.heap.size rfl (.tmp 31) (.tmp 32) 22 5 (.int .u8 0) 1 rfl Try.underlying22 info5 rfl (by decide) (by omega) (.slice A 0 c) [] xs A1 n1 c1 (fun _ => True) (fun _ => False) rfl rfl HO1.out (Kd.C_below H1.out HB.out) (fun _ _ h => h) (fun _ h => h.elim) (fun _ _ => trivial) HB.out HB.out.size (by simp; omega) ?_; intro v9 w9 ho hb hg hat; (obtain ⟨A9, c9, e9⟩ := Kd.R_slice ho); subst e9; rw [List.nil_append, E1.out] at ho; have HO9 := Aside0.mk ho; have HB9 := Aside0.mk hb; clear ho hb hg hat; rw [List.nil_append, E1.out])
          go_roundg 1
          case measure => omega
          case rel => exact ⟨1, A9, c9, rfl, by go_num, rfl, HO9, HB9⟩
        | 1, hi, HO =>
          have HO1 : Aside0 ((Kd.int .u8).R 5 wr w.heap.size (fun _ => True) (.slice A n1 c) xs) := HO
          clear HO
          have d1 := (HB.out.cell (World.block_lt_of_cell? _ _ c1')).trans c1'
          go_wp2_with ((with_reducible refine gate_builtin (b := .append) (xs := #[.tmp 31, .tmp 32]) rfl ?_); at_builtin; refine Kd.R_append_rows (Kd.int .u8) (w0 := w) w.heap.size rfl (.tmp 31) (.tmp 32) 22 5 (.int .u8 0) 1 rfl Try.underlying22 info5 rfl (by decide) (by omega) (.slice A n1 c) xs ys A2 n2 c2 (fun _ => True) (fun _ => False) rfl rfl HO1.out (Kd.C_below H2.out HB.out) (fun _ _ h => h) (fun _ h => h.elim) (fun _ _ => trivial) HB.out HB.out.size (by rw [E1.out]; omega) ?_; intro v9 w9 ho hb hg hat; (obtain ⟨A9, c9, e9⟩ := Kd.R_slice ho); subst e9; rw [List.length_append, E1.out, E2.out] at ho; have HO9 := Aside0.mk ho; have HB9 := Aside0.mk hb; clear ho hb hg hat; rw [List.length_append, E1.out, E2.out])
          go_roundg 0
          case measure => omega
          case rel => exact ⟨2, A9, c9, rfl, by go_num, rfl, HO9, HB9⟩
        | 2, hi, HO =>
          go_wp2
          go_ret
          exact ⟨A, c, rfl, HO.out, HB.out⟩
        | i + 3, hi, _ => omega
    | i + 3, hi => omega
end Go.Proofs.Ytgfhbkhbnmgogaa.GFnExactHmac.Hand
