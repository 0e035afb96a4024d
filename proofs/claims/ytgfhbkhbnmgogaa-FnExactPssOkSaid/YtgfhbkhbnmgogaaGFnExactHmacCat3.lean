import Derived.Test.YtgfhbkhbnmgogaaGFnExactHmacCat
namespace Go.Proofs.Ytgfhbkhbnmgogaa.GFnExactHmac.Hand
open Go.RowKit Go.Proofs.YtgfhbkhbnmgogaaW.PrintWords Go.Proofs.YtgfhbkhbnmgogaaW.PrintLast Go.Proofs.YtgfhbkhbnmgogaaW.PrintMore
set_option linter.unusedVariables false
set_option linter.unusedSimpArgs false
/-! ### slices.Concat (32) of three rows of bytes -/
set_option maxHeartbeats 4000000 in
set_option maxRecDepth 100000 in
theorem concat3_calls (g : Nat) (A1 : Option Addr) (n1 c1 : Nat) (xs : List Int) (A2 : Option Addr) (n2 c2 : Nat) (ys : List Int) (A3 : Option Addr) (n3 c3 : Nat) (zs : List Int) (w : World) (hg : w.heap[g]? = some (.cells #[.slice A1 n1 c1, .slice A2 n2 c2, .slice A3 n3 c3] 22 (0, 0))) (h1 : (Kd.int .u8).C w A1 n1 xs) (e1 : xs.length = n1) (h2 : (Kd.int .u8).C w A2 n2 ys) (e2 : ys.length = n2) (h3 : (Kd.int .u8).C w A3 n3 zs) (e3 : zs.length = n3) (l1 : n1 ≤ 100000) (l2 : n2 ≤ 100000) (l3 : n3 ≤ 100000) :
    Calls Try.prog 32 #[.slice (some ⟨g, 0, none⟩) 3 3] w fun e w' => ∃ (A : Option Addr) (c : Nat), e = .returned (.slice A (n1 + n2 + n3) c) ∧ (Kd.int .u8).R 5 w' w.heap.size (fun _ => True) (.slice A (n1 + n2 + n3) c) (xs ++ ys ++ zs) ∧ Below w.heap.size w w' := by
  have c0 := cell_at hg 0
  have c1' := cell_at hg 1
  have c2' := cell_at hg 2
  replace c0 : w.cell? ⟨g, 0, none⟩ = some (.slice A1 n1 c1) := c0
  replace c1' : w.cell? ⟨g, 1, none⟩ = some (.slice A2 n2 c2) := c1'
  replace c2' : w.cell? ⟨g, 2, none⟩ = some (.slice A3 n3 c3) := c2'
  have H1 := Aside0.mk h1
  have H3 := Aside0.mk h3
  have E3 := Aside0.mk e3
  have H2 := Aside0.mk h2
  have E1 := Aside0.mk e1
  have E2 := Aside0.mk e2
  have HG := Aside0.mk hg
  clear h1 h2 h3 e1 e2 e3 hg
  go_enter Try.func32, Try.ntmps32
  go_wp2
  go_loopg [3, 11] 3 (fun gk v3 v11 wr => ∃ i : Nat, i + gk = 3 ∧ v11 = .int .i64 (i : Int) ∧ v3 = .int .i64 (((if i = 0 then 0 else if i = 1 then n1 else if i = 2 then n1 + n2 else n1 + n2 + n3 : Nat) : Nat) : Int) ∧ wr = w)
  case atStart => exact ⟨0, rfl, rfl, rfl, rfl⟩
  case round =>
    obtain ⟨i, hi, rfl, rfl, hw⟩ := hrel
    obtain rfl := hw.symm
    clear hw
    match i, hi with
    | 0, hi =>
      go_wp2
      go_roundg 2
      case measure => omega
      case rel => exact ⟨1, rfl, by go_num, by simp, rfl⟩
    | 1, hi =>
      go_wp2
      go_roundg 1
      case measure => omega
      case rel => exact ⟨2, rfl, by go_num, by simp, rfl⟩
    | 2, hi =>
      go_wp2
      go_roundg 0
      case measure => omega
      case rel => exact ⟨3, rfl, by go_num, by simp, rfl⟩
    | 3, hi =>
      have hgr := grow_calls (n1 + n2 + n3) w (by omega)
      rw [Int.natCast_add, Int.natCast_add] at hgr
      have HGR := Aside0.mk hgr
      clear hgr
      go_wp2_with fail
      refine HGR.out.mono ?_
      rintro e w1 ⟨A, c, rfl, ho, hb⟩
      have HO := Aside0.mk ho
      have HB := Aside0.mk hb
      clear ho hb HGR
      go_wp2
      go_loopg [6, 27] 3 (fun gk v6 v27 w2 => ∃ (i : Nat) (A : Option Addr) (c : Nat), i + gk = 3 ∧ v27 = .int .i64 (i : Int) ∧ v6 = .slice A (if i = 0 then 0 else if i = 1 then n1 else if i = 2 then n1 + n2 else n1 + n2 + n3) c ∧ Aside0 ((Kd.int .u8).R 5 w2 w.heap.size (fun _ => True) (.slice A (if i = 0 then 0 else if i = 1 then n1 else if i = 2 then n1 + n2 else n1 + n2 + n3) c) (if i = 0 then [] else if i = 1 then xs else if i = 2 then xs ++ ys else xs ++ ys ++ zs)) ∧ Aside0 (Below w.heap.size w w2))
      case atStart => exact ⟨0, A, c, rfl, rfl, rfl, HO, HB⟩
      case round =>
        clear HO HB
        obtain ⟨i, A, c, hi, rfl, rfl, HO, HB⟩ := hrel
        match i, hi, HO with
        | 0, hi, HO =>
          have HO1 : Aside0 ((Kd.int .u8).R 5 wr w.heap.size (fun _ => True) (.slice A 0 c) []) := HO
          clear HO
          have d0 := (HB.out.cell (World.block_lt_of_cell? _ _ c0)).trans c0
          go_wp2_with ((with_reducible refine gate_builtin (b := .append) (xs := #[.tmp 31, .tmp 32]) rfl ?_); at_builtin; refine Kd.R_append_rows (Kd.int .u8) (w0 := w) w.heap.size rfl (.tmp 31) (.tmp 32) 22 5 (.int .u8 0) 1 rfl Try.underlying22 info5 rfl (by decide) (by omega) (.slice A 0 c) [] xs A1 n1 c1 (fun _ => True) (fun _ => False) rfl rfl HO1.out (Kd.C_below H1.out HB.out) (fun _ _ h => h) (fun _ h => h.elim) (fun _ _ => trivial) HB.out HB.out.size (by simp; omega) ?_; intro v9 w9 ho hb hg hat; (obtain ⟨A9, c9, e9⟩ := Kd.R_slice ho); subst e9; rw [List.nil_append, E1.out] at ho; have HO9 := Aside0.mk ho; have HB9 := Aside0.mk hb; clear ho hb hg hat; rw [List.nil_append, E1.out])
          go_roundg 2
          case measure => omega
          case rel => exact ⟨1, A9, c9, rfl, by go_num, rfl, HO9, HB9⟩
        | 1, hi, HO =>
          have HO1 : Aside0 ((Kd.int .u8).R 5 wr w.heap.size (fun _ => True) (.slice A n1 c) xs) := HO
          clear HO
          have d1 := (HB.out.cell (World.block_lt_of_cell? _ _ c1')).trans c1'
          go_wp2_with ((with_reducible refine gate_builtin (b := .append) (xs := #[.tmp 31, .tmp 32]) rfl ?_); at_builtin; refine Kd.R_append_rows (Kd.int .u8) (w0 := w) w.heap.size rfl (.tmp 31) (.tmp 32) 22 5 (.int .u8 0) 1 rfl Try.underlying22 info5 rfl (by decide) (by omega) (.slice A n1 c) xs ys A2 n2 c2 (fun _ => True) (fun _ => False) rfl rfl HO1.out (Kd.C_below H2.out HB.out) (fun _ _ h => h) (fun _ h => h.elim) (fun _ _ => trivial) HB.out HB.out.size (by rw [E1.out]; omega) ?_; intro v9 w9 ho hb hg hat; (obtain ⟨A9, c9, e9⟩ := Kd.R_slice ho); subst e9; rw [List.length_append, E1.out, E2.out] at ho; have HO9 := Aside0.mk ho; have HB9 := Aside0.mk hb; clear ho hb hg hat; rw [List.length_append, E1.out, E2.out])
          go_roundg 1
          case measure => omega
          case rel => exact ⟨2, A9, c9, rfl, by go_num, rfl, HO9, HB9⟩
        | 2, hi, HO =>
          have HO1 : Aside0 ((Kd.int .u8).R 5 wr w.heap.size (fun _ => True) (.slice A (n1 + n2) c) (xs ++ ys)) := HO
          clear HO
          have d2 := (HB.out.cell (World.block_lt_of_cell? _ _ c2')).trans c2'
          have HL12 : Aside0 ((xs ++ ys).length = n1 + n2) := ⟨by rw [List.length_append, E1.out, E2.out]⟩
          go_wp2_with ((with_reducible refine gate_builtin (b := .append) (xs := #[.tmp 31, .tmp 32]) rfl ?_); at_builtin; refine Kd.R_append_rows (Kd.int .u8) (w0 := w) w.heap.size rfl (.tmp 31) (.tmp 32) 22 5 (.int .u8 0) 1 rfl Try.underlying22 info5 rfl (by decide) (by omega) (.slice A (n1 + n2) c) (xs ++ ys) zs A3 n3 c3 (fun _ => True) (fun _ => False) rfl rfl HO1.out (Kd.C_below H3.out HB.out) (fun _ _ h => h) (fun _ h => h.elim) (fun _ _ => trivial) HB.out HB.out.size (by rw [HL12.out]; omega) ?_; intro v9 w9 ho hb hg hat; (obtain ⟨A9, c9, e9⟩ := Kd.R_slice ho); subst e9; rw [List.length_append, HL12.out, E3.out] at ho; have HO9 := Aside0.mk ho; have HB9 := Aside0.mk hb; clear ho hb hg hat; rw [List.length_append, HL12.out, E3.out])
          go_roundg 0
          case measure => omega
          case rel => exact ⟨3, A9, c9, rfl, by go_num, rfl, HO9, HB9⟩
        | 3, hi, HO =>
          go_wp2
          go_ret
          exact ⟨A, c, rfl, HO.out, HB.out⟩
        | i + 4, hi, _ => omega
    | i + 4, hi => omega
end Go.Proofs.Ytgfhbkhbnmgogaa.GFnExactHmac.Hand
