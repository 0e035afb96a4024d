import Derived.Test.YtgfhbkhbnmgogaaGFnExactHmacMask
import Derived.Test.YtgfhbkhbnmgogaaGFnExactPssOkx1
namespace Go.Proofs.Ytgfhbkhbnmgogaa.GFnExactPssOk.Hand
open Go.RowKit Go.Proofs.YtgfhbkhbnmgogaaW.PrintWords Go.Proofs.YtgfhbkhbnmgogaaW.PrintLast Go.Proofs.YtgfhbkhbnmgogaaW.PrintMore Go.Proofs.Ytgfhbkhbnmgogaa.GFnExactHmac.Hand
set_option linter.unusedVariables false
set_option linter.unusedSimpArgs false
/-! ### spec.Short (51), spec.Mask (49) -/
set_option maxHeartbeats 8000000 in
set_option maxRecDepth 100000 in
theorem sshort_calls (A : Option Addr) (n c : Nat) (xs : List Int) (w : World) (hC : (Kd.int .u8).C w A n xs) (hn : xs.length = n) (hl : n ≤ 20000) :
    Calls Try.prog 51 #[.slice A n c] w fun e w' => ∃ (A' : Option Addr) (c' : Nat), e = .returned (.slice A' 8 c') ∧ 8 ≤ c' ∧ (Kd.int .u8).C w' A' 8 (shortL xs) ∧ Below w.heap.size w w' := by
  have HC := Aside0.mk hC
  have HN := Aside0.mk hn
  clear hC hn
  go_enter Try.func51, Try.ntmps51
  go_wp2_with fail
  refine (ssha_calls A n c xs _ HC.out HN.out (by omega)).mono ?_
  rintro e w2 ⟨v2, rfl, hr2, hb2⟩
  obtain ⟨A2, c2, e2⟩ := Kd.R_slice hr2
  rw [shaL_length] at e2
  subst e2
  have hnc : 32 ≤ c2 := (Kd.R_reads' hr2).2.1
  have HR : Aside0 (RawS w2 A2 8 (shortL xs)) := ⟨(RawS.of_R hr2 (shaL_length _)).take (by omega)⟩
  have HB := Aside0.mk hb2
  clear hr2 hb2
  obtain ⟨i5, hi5, hi5s⟩ := Option.map_eq_some_iff.1 info5
  have hct : ∀ W : World, (Instr.slice 22 (.slice A2 32 c2) none (some (.int .i64 8)) none).run Try.prog W = .ok (.slice A2 8 c2) W := cut_to (P := Try.prog) 22 5 .i64 Try.underlying22 hi5 A2 32 c2 8 (by omega) (by omega) hnc
  clear hi5 hi5s
  go_wp2
  go_ret
  exact ⟨A2, c2, rfl, by omega, HR.out.C (by omega), HB.out⟩
theorem l1b (xs : List Int) (h : xs.length ≤ 1048576) : spec_l1Bytes.f xs = some xs := by
  unfold spec_l1Bytes.f
  simp
  omega
set_option maxHeartbeats 8000000 in
set_option maxRecDepth 100000 in
theorem smask_calls (A : Option Addr) (n c : Nat) (seed : List Int) (m : Nat) (w : World) (hC : (Kd.int .u8).C w A n seed) (hn : seed.length = n) (hnc : n ≤ c) (hl : n ≤ 1000) (hm : m ≤ 200) :
    Calls Try.prog 49 #[.slice A n c, .int .i64 (m : Int)] w fun e w' => ∃ (A' : Option Addr) (c' : Nat), e = .returned (.tuple #[.slice A' m c', .bool true]) ∧ m ≤ c' ∧ (Kd.int .u8).C w' A' m (maskL seed m) ∧ Below w.heap.size w w' := by
  have HC := Aside0.mk hC
  have HN := Aside0.mk hn
  have HIN : Aside0 (spec_l1In.f (m : Int) 0 200 = some true) := ⟨by unfold spec_l1In.f; rw [if_pos (by omega)]; congr 1; exact decide_eq_true (by omega)⟩
  have HLB : Aside0 (∀ W : World, (Kd.int .u8).C W A n seed → Calls Try.prog 36 #[.slice A n c] W fun e w' => ∃ (A' : Option Addr) (c' : Nat), e = .returned (.slice A' n c') ∧ (Kd.int .u8).R 5 w' W.heap.size (fun _ => True) (.slice A' n c') seed ∧ Below W.heap.size W w') := ⟨by
    intro W hc
    have h := spec_l1Bytes.calls A c seed seed W (by rw [hn]; exact hc) (by rw [hn]; exact hnc) (l1b seed (by omega))
    rw [hn] at h
    refine h.mono ?_
    rintro e w' ⟨v, rfl, hr, hb⟩
    obtain ⟨A', c', e1⟩ := Kd.R_slice hr
    rw [hn] at e1
    subst e1
    exact ⟨A', c', rfl, hr, hb⟩⟩
  have hgt : decide ((1000 : Int) < (n : Int)) = false := decide_eq_false (by omega)
  clear hC hn
  go_enter Try.func49, Try.ntmps49
  go_wp2_with fail
  refine (spec_l1In.calls (m : Int) 0 200 true _ HIN.out).mono ?_
  rintro e w0 ⟨rfl, ⟨nd, rfl⟩⟩
  go_wp2
  go_loopg [6, 7] ((m + 31) / 32) (fun gk v6 v7 wr => ∃ (i : Nat) (B : Option Addr) (d : Nat), i + gk = (m + 31) / 32 ∧ v7 = .int .i64 (i : Int) ∧ v6 = .slice B (32 * i) d ∧ Aside0 ((Kd.int .u8).R 5 wr w.heap.size (fun _ => True) (.slice B (32 * i) d) (mkL seed i)) ∧ Aside0 (Below w.heap.size w wr))
  case atStart => exact ⟨0, _, _, by omega, rfl, rfl, ⟨u8lit (base := w.heap.size) (w.drewN nd) [] (by decide) (Nat.le_refl _)⟩, ⟨below_alloc (pw_below_drewN (Below.refl w.heap.size w) nd) _⟩⟩
  case round =>
    obtain ⟨i, B, d, hi, rfl, rfl, HO, HB⟩ := hrel
    by_cases hlt : 32 * i < m
    · have hw : IntKind.u8.wrap (i : Int) = (i : Int) := by show (i : Int) % 256 = _; omega
      go_wp2_with fail
      refine (HLB.out _ (Kd.C_below HC.out HB.out)).mono ?_
      rintro e w1 ⟨A1, c1, rfl, hr1, hb1⟩
      have HR1 := Aside0.mk hr1
      have HB1 := Aside0.mk hb1
      clear hr1 hb1
      go_wp2_with ((with_reducible refine gate_builtin (b := .append) (xs := #[.tmp 26, .tmp 29]) rfl ?_); refine halt_ ?_)
      unfold Halt_
      have HL4 : Aside0 ((Kd.int .u8).C (w1.alloc (.cells #[.int .u8 0, .int .u8 0, .int .u8 0, .int .u8 (i : Int)] 5)) (some ⟨w1.heap.size, 0, none⟩) 4 (ctr i)) := ⟨lit_reads w1 (ctr i) (by simp [ctr])⟩
      at_builtin
      refine Kd.R_append_rows (Kd.int .u8) (w0 := wr) wr.heap.size rfl (.tmp 26) (.tmp 29) 22 5 (.int .u8 0) 1 rfl Try.underlying22 info5 rfl (by decide) (by omega) (.slice A1 n c1) seed (ctr i) (some ⟨w1.heap.size, 0, none⟩) 4 4 (fun _ => True) (fun _ => False) rfl rfl (Kd.R_alloc HR1.out _) HL4.out (fun _ _ h => h) (fun _ h => h.elim) (fun _ _ => trivial) (below_alloc HB1.out _) (below_alloc HB1.out _).size (by rw [HN.out]; omega) ?_
      intro v9 w9 ho hb hg hat
      have HLA : Aside0 ((seed ++ ctr i).length = n + 4) := ⟨by rw [List.length_append, HN.out]; rfl⟩
      obtain ⟨A9, c9, e9⟩ := Kd.R_slice ho
      rw [HLA.out] at e9
      subst e9
      have HC9 := Aside0.mk (by have := (Kd.R_reads' ho).2.2; rw [HLA.out] at this; exact this)
      have HO9 := Aside0.mk (Kd.R_below HO.out hb)
      have HB9 := Aside0.mk hb
      clear ho hb hg hat HR1 HL4 HB1 HO
      go_wp2_with fail
      refine (ssha_calls A9 (n + 4) c9 (seed ++ ctr i) _ HC9.out HLA.out (by omega)).mono ?_
      rintro e w2 ⟨v2, rfl, hr2, hb2⟩
      obtain ⟨A2, c2, e2⟩ := Kd.R_slice hr2
      rw [shaL_length] at e2
      subst e2
      have HC2 := Aside0.mk (by have := (Kd.R_reads' hr2).2.2; rw [shaL_length] at this; exact this)
      have HBW := Aside0.mk (below_step HB.out (below_step HB9.out hb2))
      have HO2 := Aside0.mk (Kd.R_below HO9.out hb2)
      clear hr2 hb2 HC9 HB9 HO9
      go_wp2_with ((with_reducible refine gate_builtin (b := .append) (xs := #[.tmp 24, .tmp 31]) rfl ?_); refine halt_ ?_)
      unfold Halt_
      at_builtin
      refine Kd.R_append_rows (Kd.int .u8) (w0 := w) w.heap.size rfl (.tmp 24) (.tmp 31) 22 5 (.int .u8 0) 1 rfl Try.underlying22 info5 rfl (by decide) (by omega) (.slice B (32 * i) d) (mkL seed i) (shaL (seed ++ ctr i)) A2 32 c2 (fun _ => True) (fun _ => False) rfl rfl HO2.out HC2.out (fun _ _ h => h) (fun _ h => h.elim) (fun _ _ => trivial) HBW.out HBW.out.size (by rw [mkL_length]; omega) ?_
      intro v9 w9 ho hb hg hat
      obtain ⟨A9, c9, e9⟩ := Kd.R_slice ho
      have hl0 : (mkL seed i ++ shaL (seed ++ ctr i)).length = 32 * (i + 1) := mkL_length seed (i + 1)
      rw [hl0] at e9
      subst e9
      have HO9 : Aside0 ((Kd.int .u8).R 5 w9 w.heap.size (fun _ => True) (.slice A9 (32 * (i + 1)) c9) (mkL seed (i + 1))) := ⟨ho⟩
      have HB9 := Aside0.mk hb
      clear ho hb hg hat hl0
      go_wp2
      go_roundg ((m + 31) / 32 - (i + 1))
      case measure => omega
      case rel => exact ⟨i + 1, A9, c9, by omega, by go_num, rfl, HO9, HB9⟩
    · have hik : i = (m + 31) / 32 := by omega
      have hnc : 32 * i ≤ d := (Kd.R_reads' HO.out).2.1
      obtain ⟨i5, hi5, hi5s⟩ := Option.map_eq_some_iff.1 info5
      have hct : ∀ W : World, (Instr.slice 22 (.slice B (32 * i) d) none (some (.int .i64 (m : Int))) none).run Try.prog W = .ok (.slice B m d) W := cut_to (P := Try.prog) 22 5 .i64 Try.underlying22 hi5 B (32 * i) d (m : Int) (by omega) (by omega) hnc
      clear hi5 hi5s
      have HR : Aside0 (RawS wr B m (maskL seed m)) := ⟨by rw [maskL, ← hik]; exact (RawS.of_R HO.out (mkL_length _ _)).take (by omega)⟩
      have hmd : m ≤ d := by omega
      clear hik
      go_wp2
      go_ret2
      exact ⟨B, d, rfl, hmd, HR.out.C (by omega), HB.out⟩
end Go.Proofs.Ytgfhbkhbnmgogaa.GFnExactPssOk.Hand
