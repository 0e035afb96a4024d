import Derived.Test.YtgfhbkhbnmgogaaGFnExactHmacSSha
namespace Go.Proofs.Ytgfhbkhbnmgogaa.GFnExactHmac.Hand
open Go.RowKit Go.Proofs.YtgfhbkhbnmgogaaW.PrintWords Go.Proofs.YtgfhbkhbnmgogaaW.PrintLast Go.Proofs.YtgfhbkhbnmgogaaW.PrintMore
set_option linter.unusedVariables false
set_option linter.unusedSimpArgs false
/-! ### impl.mask (53), impl.short (55) -/
def ctr (i : Nat) : List Int := [0, 0, 0, (i : Int)]
def mkL (seed : List Int) : Nat → List Int
  | 0 => []
  | i + 1 => mkL seed i ++ shaL (seed ++ ctr i)
theorem mkL_length (seed : List Int) : ∀ i, (mkL seed i).length = 32 * i
  | 0 => rfl
  | i + 1 => by rw [mkL, List.length_append, mkL_length seed i, shaL_length]; omega
def maskL (seed : List Int) (m : Nat) : List Int := (mkL seed ((m + 31) / 32)).take m
theorem maskL_length (seed : List Int) (m : Nat) : (maskL seed m).length = m := by rw [maskL, List.length_take, mkL_length]; omega
def shortL (xs : List Int) : List Int := (shaL xs).take 8
theorem shortL_length (xs : List Int) : (shortL xs).length = 8 := by rw [shortL, List.length_take, shaL_length]; rfl
set_option maxHeartbeats 8000000 in
set_option maxRecDepth 100000 in
theorem mask_calls (A : Option Addr) (n c : Nat) (seed : List Int) (m : Nat) (w : World) (hC : (Kd.int .u8).C w A n seed) (hn : seed.length = n) (hl : n ≤ 1000) (hm : m ≤ 200) :
    Calls Try.prog 53 #[.slice A n c, .int .i64 (m : Int)] w fun e w' => ∃ (A' : Option Addr) (c' : Nat), e = .returned (.slice A' m c') ∧ m ≤ c' ∧ (Kd.int .u8).C w' A' m (maskL seed m) ∧ (0 < m → ∀ ad, A' = some ad → w.heap.size ≤ ad.block) ∧ Below w.heap.size w w' := by
  have HC := Aside0.mk hC
  have HN := Aside0.mk hn
  clear hC hn
  go_enter Try.func53, Try.ntmps53
  go_wp2
  go_loopg [5, 6] ((m + 31) / 32) (fun gk v5 v6 wr => ∃ (i : Nat) (B : Option Addr) (d : Nat), i + gk = (m + 31) / 32 ∧ v6 = .int .i64 (i : Int) ∧ v5 = .slice B (32 * i) d ∧ Aside0 ((Kd.int .u8).R 5 wr w.heap.size (fun _ => True) (.slice B (32 * i) d) (mkL seed i)) ∧ Aside0 (Below w.heap.size w wr))
  case atStart => exact ⟨0, _, _, by omega, rfl, rfl, ⟨u8lit (base := w.heap.size) w [] (by decide) (Nat.le_refl _)⟩, ⟨below_alloc (Below.refl w.heap.size w) _⟩⟩
  case round =>
    obtain ⟨i, B, d, hi, rfl, rfl, HO, HB⟩ := hrel
    by_cases hlt : 32 * i < m
    · have hw : IntKind.u8.wrap (i : Int) = (i : Int) := by show (i : Int) % 256 = _; omega
      go_wp2_with fail
      have HCI : Aside0 ((Kd.int .u8).C (wr.alloc (.cells #[.int .u8 0, .int .u8 0, .int .u8 0, .int .u8 (i : Int)] 5)) (some ⟨wr.heap.size, 0, none⟩) 4 (ctr i)) := ⟨lit_reads wr (ctr i) (by simp [ctr])⟩
      refine (concat_calls (wr.heap.size + 1) A n c seed (some ⟨wr.heap.size, 0, none⟩) 4 4 (ctr i) _ (alloc_at (size_alloc _ _) _) (Kd.C_alloc (Kd.C_alloc (Kd.C_below HC.out HB.out) _) _) HN.out (Kd.C_alloc HCI.out _) rfl (by omega) (by omega)).mono ?_
      rintro e w1 ⟨A1, c1, rfl, hr1, hb1⟩
      have HL1 : Aside0 ((seed ++ ctr i).length = n + 4) := ⟨by rw [List.length_append, HN.out]; rfl⟩
      have HC1 := Aside0.mk (by have := (Kd.R_reads' hr1).2.2; rw [HL1.out] at this; exact this)
      have HB1 := Aside0.mk (below_step (below_alloc (below_alloc (Below.refl wr.heap.size wr) _) _) hb1)
      clear hr1 hb1
      go_wp2_with fail
      refine (sha_calls A1 (n + 4) c1 (seed ++ ctr i) _ HC1.out HL1.out (by omega)).mono ?_
      rintro e w2 ⟨v2, rfl, hr2, hb2⟩
      obtain ⟨A2, c2, e2⟩ := Kd.R_slice hr2
      rw [shaL_length] at e2
      subst e2
      have HC2 := Aside0.mk (by have := (Kd.R_reads' hr2).2.2; rw [shaL_length] at this; exact this)
      have HB2 := Aside0.mk (below_step HB1.out hb2)
      have HO2 := Aside0.mk (Kd.R_below HO.out HB2.out)
      have HBW := Aside0.mk (below_step HB.out HB2.out)
      clear hr2 hb2 HC1 HB1 HO
      go_wp2_with ((with_reducible refine gate_builtin (b := .append) (xs := #[.tmp 14, .tmp 21]) rfl ?_); refine halt_ ?_)
      unfold Halt_
      at_builtin
      refine Kd.R_append_rows (Kd.int .u8) (w0 := w) w.heap.size rfl (.tmp 14) (.tmp 21) 22 5 (.int .u8 0) 1 rfl Try.underlying22 info5 rfl (by decide) (by omega) (.slice B (32 * i) d) (mkL seed i) (shaL (seed ++ ctr i)) A2 32 c2 (fun _ => True) (fun _ => False) rfl rfl HO2.out HC2.out (fun _ _ h => h) (fun _ h => h.elim) (fun _ _ => trivial) HBW.out HBW.out.size (by rw [mkL_length]; omega) ?_
      intro v9 w9 ho hb hg hat
      obtain ⟨A9, c9, e9⟩ := Kd.R_slice ho
      have hl0 : (mkL seed i ++ shaL (seed ++ ctr i)).length = 32 * (i + 1) := mkL_length seed (i + 1)
      rw [hl0] at e9
      subst e9
      have HO9 : Aside0 ((Kd.int .u8).R 5 w9 w.heap.size (fun _ => True) (.slice A9 (32 * (i + 1)) c9) (mkL seed (i + 1))) := ⟨ho⟩
      have HB9 := Aside0.mk hb
      clear ho hb hg hat hl0
      go_wp2
      go_roundg ((m + 31) / 32 - (i + 1))
      case measure => omega
      case rel => exact ⟨i + 1, A9, c9, by omega, by go_num, rfl, HO9, HB9⟩
    · have hik : i = (m + 31) / 32 := by omega
      have hnc : 32 * i ≤ d := (Kd.R_reads' HO.out).2.1
      obtain ⟨i5, hi5, hi5s⟩ := Option.map_eq_some_iff.1 info5
      have hct : ∀ W : World, (Instr.slice 22 (.slice B (32 * i) d) none (some (.int .i64 (m : Int))) none).run Try.prog W = .ok (.slice B m d) W := cut_to (P := Try.prog) 22 5 .i64 Try.underlying22 hi5 B (32 * i) d (m : Int) (by omega) (by omega) hnc
      clear hi5 hi5s
      have HR : Aside0 (RawS wr B m (maskL seed m)) := ⟨by rw [maskL, ← hik]; exact (RawS.of_R HO.out (mkL_length _ _)).take (by omega)⟩
      have hmd : m ≤ d := by omega
      have HFR : Aside0 (0 < m → ∀ ad, B = some ad → w.heap.size ≤ ad.block) := ⟨by
        intro h0 ad ha
        obtain ⟨g, cap, cur, e1, hg, _, _⟩ := int_raw HO.out (by intro e; have h := congrArg List.length e; rw [mkL_length] at h; simp at h; omega)
        injection e1 with e1 e2 e3
        rw [e1] at ha
        injection ha with ha
        subst ha
        exact hg⟩
      clear hik
      go_wp2
      go_ret
      exact ⟨B, d, rfl, hmd, HR.out.C (by omega), HFR.out, HB.out⟩
set_option maxHeartbeats 8000000 in
set_option maxRecDepth 100000 in
theorem short_calls (A : Option Addr) (n c : Nat) (xs : List Int) (w : World) (hC : (Kd.int .u8).C w A n xs) (hn : xs.length = n) (hl : n ≤ 20000) :
    Calls Try.prog 55 #[.slice A n c] w fun e w' => ∃ (A' : Option Addr) (c' : Nat), e = .returned (.slice A' 8 c') ∧ 8 ≤ c' ∧ (Kd.int .u8).C w' A' 8 (shortL xs) ∧ Below w.heap.size w w' := by
  have HC := Aside0.mk hC
  have HN := Aside0.mk hn
  clear hC hn
  go_enter Try.func55, Try.ntmps55
  go_wp2_with fail
  refine (sha_calls A n c xs _ HC.out HN.out (by omega)).mono ?_
  rintro e w2 ⟨v2, rfl, hr2, hb2⟩
  obtain ⟨A2, c2, e2⟩ := Kd.R_slice hr2
  rw [shaL_length] at e2
  subst e2
  have hnc : 32 ≤ c2 := (Kd.R_reads' hr2).2.1
  have HR : Aside0 (RawS w2 A2 8 (shortL xs)) := ⟨(RawS.of_R hr2 (shaL_length _)).take (by omega)⟩
  have HB := Aside0.mk hb2
  clear hr2 hb2
  obtain ⟨i5, hi5, hi5s⟩ := Option.map_eq_some_iff.1 info5
  have hct : ∀ W : World, (Instr.slice 22 (.slice A2 32 c2) none (some (.int .i64 8)) none).run Try.prog W = .ok (.slice A2 8 c2) W := cut_to (P := Try.prog) 22 5 .i64 Try.underlying22 hi5 A2 32 c2 8 (by omega) (by omega) hnc
  clear hi5 hi5s
  go_wp2
  go_ret
  exact ⟨A2, c2, rfl, by omega, HR.out.C (by omega), HB.out⟩
end Go.Proofs.Ytgfhbkhbnmgogaa.GFnExactHmac.Hand
