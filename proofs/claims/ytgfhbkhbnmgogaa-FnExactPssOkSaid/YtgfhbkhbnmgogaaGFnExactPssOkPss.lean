import Derived.Test.YtgfhbkhbnmgogaaGFnExactPssOkSMask
import Derived.Test.YtgfhbkhbnmgogaaGFnExactHmacSPad
import Derived.Test.YtgfhbkhbnmgogaaGFnExactHmacCat3
namespace Go.Proofs.Ytgfhbkhbnmgogaa.GFnExactPssOk.Hand
open Go.RowKit Go.Proofs.YtgfhbkhbnmgogaaW.PrintWords Go.Proofs.YtgfhbkhbnmgogaaW.PrintLast Go.Proofs.YtgfhbkhbnmgogaaW.PrintMore Go.Proofs.Ytgfhbkhbnmgogaa.GFnExactHmac.Hand
set_option linter.unusedVariables false
set_option linter.unusedSimpArgs false
/-! ### the plain law of PssOk; impl.PssOk (27) -/
def eqL (a b : List Int) : Bool := (strOfNums a).toList == (strOfNums b).toList
/-- the masked part, each byte crossed with the mask -/
def xorD (em mk : List Int) (n : Nat) : List Int := (List.range n).map (fun j => Go.bits .xor .u8 (em.getD j 0) (mk.getD j 0))
theorem xorD_length (em mk : List Int) (n : Nat) : (xorD em mk n).length = n := by simp [xorD]
/-- its first byte without the bits above -/
def dbL (em mk : List Int) (n a : Nat) : List Int := (xorD em mk n).set 0 ((xorD em mk n).getD 0 0 % 2 ^ (8 - a))
theorem dbL_length (em mk : List Int) (n a : Nat) : (dbL em mk n a).length = n := by simp [dbL, xorD_length]
def zerosTo (l : List Int) (m : Nat) : Bool := (List.range m).all (fun j => l.getD j 0 == 0)
/-- PssOk of n + 9 bytes, a bits of them above. -/
def pssIn (em : List Int) (n a : Nat) (h : List Int) : Bool :=
  if em.getD (n + 8) 0 = 188 ∧ em.getD 0 0 / 2 ^ (8 - a) = 0 then
    (if zerosTo (dbL em (maskL ((em.take (n + 8)).drop n) n) n a) (n - 5) = true ∧ (dbL em (maskL ((em.take (n + 8)).drop n) n) n a).getD (n - 5) 0 = 1 then
      eqL (shortL (List.replicate 8 0 ++ h ++ (dbL em (maskL ((em.take (n + 8)).drop n) n) n a).drop (n - 4))) ((em.take (n + 8)).drop n)
    else false)
  else false
def pssL (em : List Int) (b : Int) (h : List Int) : Bool :=
  if 127 ≤ b ∧ b ≤ 511 ∧ h.length = 8 ∧ (em.length : Int) = (b + 7) / 8 then pssIn em (em.length - 9) (8 * em.length - b.toNat) h else false
theorem xor_start (em mk : List Int) (n : Nat) (hn : n ≤ em.length) : mixL (fun j => Go.bits .xor .u8 (em.getD j 0) (mk.getD j 0)) (fun j => em.getD j 0) n 0 = em.take n := by
  apply List.ext_getElem?
  intro j
  rcases Nat.lt_or_ge j n with hj | hj
  · rw [mixL_get _ _ _ _ _ hj, if_neg (by omega), List.getElem?_take, if_pos hj, List.getD_eq_getElem?_getD, List.getElem?_eq_getElem (by omega)]
    rfl
  · rw [List.getElem?_eq_none (by rw [mixL_length]; exact hj), List.getElem?_eq_none (by rw [List.length_take]; omega)]
theorem xor_end (em mk : List Int) (n : Nat) : mixL (fun j => Go.bits .xor .u8 (em.getD j 0) (mk.getD j 0)) (fun j => em.getD j 0) n n = xorD em mk n := by
  unfold mixL xorD
  apply List.map_congr_left
  intro j hj
  rw [if_pos (List.mem_range.1 hj)]
theorem xor_range (x y : Int) : 0 ≤ Go.bits .xor .u8 x y ∧ Go.bits .xor .u8 x y < 256 := by
  unfold Go.bits
  rw [IntKind.wrap_u8]
  omega
theorem xorD_range (em mk : List Int) (n j : Nat) : 0 ≤ (xorD em mk n).getD j 0 ∧ (xorD em mk n).getD j 0 < 256 := by
  rw [List.getD_eq_getElem?_getD, xorD, List.getElem?_map]
  rcases Nat.lt_or_ge j n with h | h
  · rw [List.getElem?_range h]
    exact xor_range _ _
  · rw [List.getElem?_eq_none (by simpa using h)]
    simp
theorem and_first (x : Int) (a : Nat) (ha : a ≤ 7) (h0 : 0 ≤ x) (h1 : x < 256) : Go.bits .and .u8 x (255 / 2 ^ a) = x % 2 ^ (8 - a) := by
  have h := bits_mask .u8 8 (by decide) wraps_u8 (8 - a) (by omega) x h0 h1
  rw [← h]
  congr 1
  match a, ha with
  | 0, _ | 1, _ | 2, _ | 3, _ | 4, _ | 5, _ | 6, _ | 7, _ => rfl
theorem zerosTo_stop {l : List Int} {i m : Nat} (h : l.getD i 0 ≠ 0) (hi : i < m) : zerosTo l m = false := by
  unfold zerosTo
  rw [List.all_eq_false]
  exact ⟨i, List.mem_range.2 hi, by simpa using h⟩
theorem zerosTo_succ {l : List Int} {i : Nat} (h : l.getD i 0 = 0) (h2 : zerosTo l i = true) : zerosTo l (i + 1) = true := by
  unfold zerosTo at h2 ⊢
  rw [List.range_succ, List.all_append, h2]
  simp
  simpa using h
theorem make8 (w : World) : (Instr.makeSlice 22 (.int .i64 8) (.int .i64 8)).run Try.prog w = .ok (.slice (some ⟨w.heap.size, 0, none⟩) 8 8) (w.alloc (.cells #[.int .u8 0, .int .u8 0, .int .u8 0, .int .u8 0, .int .u8 0, .int .u8 0, .int .u8 0, .int .u8 0] 5)) := by kernel_rfl
set_option maxHeartbeats 8000000 in
set_option maxRecDepth 100000 in
theorem pss_calls (A : Option Addr) (L c : Nat) (em : List Int) (b : Int) (Ah : Option Addr) (nh ch : Nat) (hh : List Int) (w : World) (hC : (Kd.int .u8).C w A L em) (hn : em.length = L) (hc : L ≤ c) (hH : (Kd.int .u8).C w Ah nh hh) (hnh : hh.length = nh) (hch : nh ≤ ch) (hL : L ≤ 1048576) (hnL : nh ≤ 1048576) (hb : -9223372036854775808 ≤ b ∧ b < 9223372036854775808) (hby : ∀ i, 0 ≤ rd em i ∧ rd em i < 256) :
    Calls Try.prog 27 #[.slice A L c, .int .i64 b, .slice Ah nh ch] w fun e w' => e = .returned (.bool (pssL em b hh)) ∧ Below w.heap.size w w' := by
  have HC := Aside0.mk hC
  have HN := Aside0.mk hn
  have HH := Aside0.mk hH
  have HNH := Aside0.mk hnh
  have HBY := Aside0.mk hby
  clear hC hn hH hnh hby
  by_cases c1 : 127 ≤ b ∧ b ≤ 511
  case neg =>
    have HIN : Aside0 (impl_within.f b 127 511 = some false) := ⟨by unfold impl_within.f; by_cases h : b ≥ 127; (rw [if_pos h]; congr 1; exact decide_eq_false (by omega)); rw [if_neg h]⟩
    have HE : Aside0 (pssL em b hh = false) := ⟨if_neg (by omega)⟩
    rw [HE.out]
    go_enter Try.func27, Try.ntmps27
    go_wp2_with fail
    refine (impl_within.calls b 127 511 false _ HIN.out).mono ?_
    rintro e w0 ⟨rfl, ⟨nd, rfl⟩⟩
    go_wp2
    go_ret
    exact ⟨rfl, pw_below_drewN (Below.refl _ _) _⟩
  have HIN : Aside0 (impl_within.f b 127 511 = some true) := ⟨by unfold impl_within.f; rw [if_pos (by omega)]; congr 1; exact decide_eq_true (by omega)⟩
  by_cases c2 : nh = 8
  case neg =>
    have HE : Aside0 (pssL em b hh = false) := ⟨if_neg (by rw [HNH.out]; omega)⟩
    rw [HE.out]
    have k2 : ((nh : Int) != 8) = true := by simp; omega
    go_enter Try.func27, Try.ntmps27
    go_wp2_with fail
    refine (impl_within.calls b 127 511 true _ HIN.out).mono ?_
    rintro e w0 ⟨rfl, ⟨nd, rfl⟩⟩
    go_wp2
    go_ret
    exact ⟨rfl, pw_below_drewN (Below.refl _ _) _⟩
  subst c2
  obtain ⟨bn, rfl⟩ : ∃ n : Nat, b = (n : Int) := ⟨b.toNat, by omega⟩
  have hq : IntKind.i64.wrap (((bn : Int) + 7).tdiv 8) = (((bn + 7) / 8 : Nat) : Int) := by
    rw [Int.tdiv_eq_ediv_of_nonneg (by omega)]
    exact (i64_w _).trans (by rw [Base.w64] <;> omega)
  by_cases c3 : L = (bn + 7) / 8
  case neg =>
    have HE : Aside0 (pssL em (bn : Int) hh = false) := ⟨if_neg (by rw [HN.out]; omega)⟩
    rw [HE.out]
    have k3 : ((L : Int) != ((bn : Int) + 7) / 8) = true := by simp; omega
    go_enter Try.func27, Try.ntmps27
    go_wp2_with fail
    refine (impl_within.calls (bn : Int) 127 511 true _ HIN.out).mono ?_
    rintro e w0 ⟨rfl, ⟨nd, rfl⟩⟩
    go_wp2
    go_ret
    exact ⟨rfl, pw_below_drewN (Below.refl _ _) _⟩
  obtain ⟨n, rfl⟩ : ∃ n, L = n + 9 := ⟨L - 9, by omega⟩
  have k3 : ((bn : Int) + 7) / 8 = (n : Int) + 9 := by omega
  obtain ⟨a, ha⟩ : ∃ a, 8 * (n + 9) - bn = a := ⟨_, rfl⟩
  have HPI : Aside0 (pssL em (bn : Int) hh = pssIn em n a hh) := ⟨by
    unfold pssL
    rw [if_pos (by rw [HN.out, HNH.out]; omega), HN.out, Int.toNat_natCast]
    congr 1⟩
  rw [HPI.out]
  have c5 : 8 * (n + 9) ≤ bn + 7 ∧ bn + 7 < 8 * (n + 9) + 8 := by omega
  have HA : Aside0 (8 * (n + 9) - bn = a) := ⟨ha⟩
  clear c3 ha hq HPI
  obtain ⟨ad, e0, h1⟩ := Kd.at_int HC.out 0 (by omega) (by omega)
  obtain ⟨g0, o0, rfl⟩ := addr_plain h1
  subst e0
  obtain ⟨ad, e1, h0⟩ := Kd.at_int HC.out ((n + 8 : Nat) : Int) (by omega) (by omega)
  cases e1
  rw [Int.toNat_natCast, Addr.add_mid] at h0
  obtain ⟨x, hx⟩ : ∃ x, rd em ((n + 8 : Nat) : Int) = x := ⟨_, rfl⟩
  rw [hx] at h0
  have HX : Aside0 (em.getD (n + 8) 0 = x) := ⟨by rw [← hx, Base.rd_nat]⟩
  have h8 := h0
  clear hx h0
  by_cases c4 : x = 188
  case neg =>
    have HE : Aside0 (pssIn em n a hh = false) := ⟨if_neg (by rw [HX.out]; omega)⟩
    rw [HE.out]
    go_enter Try.func27, Try.ntmps27
    go_wp2_with fail
    refine (impl_within.calls (bn : Int) 127 511 true _ HIN.out).mono ?_
    rintro e w0 ⟨rfl, ⟨nd, rfl⟩⟩
    go_wp2
    go_ret
    exact ⟨rfl, pw_below_drewN (Below.refl _ _) _⟩
  subst c4
  obtain ⟨y, hy⟩ : ∃ y, rd em 0 = y := ⟨_, rfl⟩
  rw [hy] at h1
  have HY : Aside0 (em.getD 0 0 = y) := ⟨hy⟩
  have hy1 : 0 ≤ y ∧ y < 256 := by rw [← hy]; exact HBY.out _
  clear hy
  have c6 : a ≤ 7 := by have := HA.out; omega
  have c7 : 7 ≤ n ∧ n ≤ 55 := by omega
  obtain ⟨W8, hW8⟩ : ∃ l, (em.take (n + 8)).drop n = l := ⟨_, rfl⟩
  have HW8 := Aside0.mk hW8
  have HLW : Aside0 (W8.length = 8) := ⟨by rw [← hW8, List.length_drop, List.length_take, HN.out]; omega⟩
  have HCW : Aside0 ((Kd.int .u8).C w (some ⟨g0, o0 + n, none⟩) 8 W8) := ⟨by
    have h := Kd.C_mid (c := c) (lo := n) (hi := n + 8) (k := Kd.int .u8) (xs := em) (w := w) (A := some ⟨g0, o0, none⟩) (by rw [HN.out]; exact HC.out) (by omega) (by rw [HN.out]; omega) (by rw [HN.out]; omega)
    rw [hW8, HLW.out, if_neg (by omega)] at h
    have e : (Option.map (·.add (n * (Kd.int .u8).sz)) (some (⟨g0, o0, none⟩ : Addr))) = some ⟨g0, o0 + n, none⟩ := by
      show some (Addr.add ⟨g0, o0, none⟩ (n * 1)) = _
      rw [Nat.mul_one, Addr.add_mid]
    rw [e] at h
    exact h⟩
  have HCD : Aside0 ((Kd.int .u8).C w (some ⟨g0, o0, none⟩) n (em.take n)) := ⟨by
    have h := Kd.C_take (m := n) (k := Kd.int .u8) (xs := em) (w := w) (A := some ⟨g0, o0, none⟩) (by rw [HN.out]; exact HC.out) (by rw [HN.out]; omega)
    rwa [show (em.take n).length = n by rw [List.length_take, HN.out]; omega] at h⟩
  clear hW8
  have HAB : Aside0 (∀ W : World, (Instr.slice 22 (.slice (some ⟨g0, o0, none⟩) (n + 9) c) none (some (.int .i64 (n : Int))) none).run Try.prog W = .ok (.slice (some ⟨g0, o0, none⟩) n c) W) := ⟨by
    obtain ⟨i5, hi5, hi5s⟩ := Option.map_eq_some_iff.1 info5
    exact cut_to (P := Try.prog) 22 5 .i64 Try.underlying22 hi5 (some ⟨g0, o0, none⟩) (n + 9) c (n : Int) (by omega) (by omega) (by omega)⟩
  have HAM : Aside0 (∀ W : World, (Instr.slice 22 (.slice (some ⟨g0, o0, none⟩) (n + 9) c) (some (.int .i64 (n : Int))) (some (.int .i64 ((n : Int) + 8))) none).run Try.prog W = .ok (.slice (some ⟨g0, o0 + n, none⟩) 8 (c - n)) W) := ⟨by
    obtain ⟨i5, hi5, hi5s⟩ := Option.map_eq_some_iff.1 info5
    simp only [Prod.mk.injEq] at hi5s
    intro W
    have h := cut_mid (P := Try.prog) 22 5 .i64 .i64 Try.underlying22 hi5 1 hi5s.2.1 (some ⟨g0, o0, none⟩) (n + 9) c (n : Int) ((n : Int) + 8) (by omega) (by omega) (by omega) (by omega) W
    rw [if_neg (by omega)] at h
    simpa [Addr.add, show n ≠ 0 by omega, show ((n : Int) + 8).toNat - n = 8 by omega] using h⟩
  have HCL : Aside0 (∀ W : World, Below w.heap.size w W → Calls Try.prog 31 #[.slice (some ⟨g0, o0, none⟩) n c] W fun e w' => ∃ (A' : Option Addr) (c' : Nat), e = .returned (.slice A' n c') ∧ Aside0 ((Kd.int .u8).R 5 w' w.heap.size (fun _ => True) (.slice A' n c') (em.take n)) ∧ Aside0 (Below w.heap.size w w')) := ⟨by
    intro W hb
    refine (clone_calls (some ⟨g0, o0, none⟩) n c (em.take n) W (Kd.C_below HCD.out hb) (by rw [List.length_take, HN.out]; omega) (by omega)).mono ?_
    rintro e w' ⟨A', c', rfl, hr, hb2⟩
    exact ⟨A', c', rfl, ⟨Kd.R_lower hr hb.size⟩, ⟨below_step hb hb2⟩⟩⟩
  go_enter Try.func27, Try.ntmps27
  go_wp2_with fail
  refine (impl_within.calls (bn : Int) 127 511 true _ HIN.out).mono ?_
  rintro e w0 ⟨rfl, ⟨nd, rfl⟩⟩
  go_upto_region 4 with (fail)
  have hab := HAB.out
  have ham := HAM.out
  have hs8 : IntKind.i64.wrap ((n : Int) + 8) = (n : Int) + 8 := (i64_w _).trans (by rw [Base.w64] <;> omega)
  have ha := HA.out
  go_cut [7, 8, 9, 10] (fun v7 v8 v9 v10 wc => ∃ (A1 : Option Addr) (c1 : Nat), v7 = .int .i64 (n : Int) ∧ v8 = .int .i64 (a : Int) ∧ v9 = .slice A1 n c1 ∧ v10 = .slice (some ⟨g0, o0 + n, none⟩) 8 (c - n) ∧ Aside0 ((Kd.int .u8).R 5 wc w.heap.size (fun _ => True) (.slice A1 n c1) (em.take n)) ∧ Aside0 (Below w.heap.size w wc))
  case first =>
    go_region_held3 (fun _ => True) (go_keep) ((go_at_call 31; refine (HCL.out _ (by repeat (first | exact Below.refl _ _ | apply pw_below_drewN | apply below_drew))).mono ?_; rintro e w1 ⟨A1, c1, rfl, HD1, HB1⟩))
    go_wp2
    go_meet
    case rel => exact ⟨A1, c1, rfl, by go_num, rfl, rfl, HD1, HB1⟩
  case rest =>
    clear ha hs8 ham hab h8 h1 k3 c5 HA HAB HAM HCL HIN
    obtain ⟨A1, c1, rfl, rfl, rfl, rfl, HD1, HB1⟩ := hcut
    obtain ⟨gd, cap, cur, e1, hgd, _, _⟩ := int_raw HD1.out (by intro e; have h := congrArg List.length e; rw [List.length_take, HN.out] at h; simp at h; omega)
    injection e1 with e1 e2 e3
    subst e1 e3
    clear e2
    have hlt : (em.take n).length = n := by rw [List.length_take, HN.out]; omega
    have hrd : rdOf (0 : Int) (em.take n) 0 = y := by
      show (em.take n).getD 0 0 = y
      rw [← HY.out, List.getD_eq_getElem?_getD, List.getD_eq_getElem?_getD, List.getElem?_take, if_pos (by omega)]
    have hr := HD1.out
    obtain ⟨D, hD⟩ : ∃ D, em.take n = D := ⟨_, rfl⟩
    rw [hD] at hlt hrd hr
    rw [← hlt] at hr
    have hcell := Kd.R_cell (enc := Value.int .u8) (h1 := fun _ => rfl) 0 hr 0 (by omega) (by rw [hlt]; omega)
    have s2 : wc.cell? ⟨gd, 0, none⟩ = some (.int .u8 y) := by
      have h := hcell.1
      rw [hrd] at h
      exact h
    clear hcell hrd hr hlt hD
    clear D
    by_cases q : y / 2 ^ (8 - a) = 0
    case neg =>
      have kq : (y / 2 ^ (8 - a) != 0) = true := by simpa using q
      have HE : Aside0 (pssIn em n a hh = false) := ⟨if_neg (by rw [HY.out]; exact fun h => q h.2)⟩
      go_wp2
      go_ret
      exact ⟨congrArg (fun b => Ending.returned (Value.bool b)) HE.out.symm, HB1.out⟩
    have kq : (y / 2 ^ (8 - a) != 0) = false := by simpa using q
    go_wp2_with fail
    refine (mask_calls (some ⟨g0, o0 + n, none⟩) 8 (c - n) W8 n _ (Kd.C_below HCW.out HB1.out) HLW.out (by omega) (by omega)).mono ?_
    rintro e w2 ⟨Am, cm, rfl, hcm, hrm, hfm, hbm⟩
    have hfm2 := hfm (by omega)
    have HMK := Aside0.mk hrm
    have HB2 := Aside0.mk (below_step HB1.out hbm)
    have HD2 := Aside0.mk (Kd.R_below HD1.out hbm)
    have HLT : Aside0 (gd < wc.heap.size) := ⟨World.block_lt_of_cell? _ _ s2⟩
    have HFM : Aside0 (∀ ad, Am = some ad → ad.block ≠ gd) := ⟨fun ad h => by have h1 := hfm2 ad h; have h2 := HLT.out; omega⟩
    obtain ⟨mk, hmk⟩ : ∃ mk, maskL W8 n = mk := ⟨_, rfl⟩
    rw [hmk] at HMK
    have HMM := Aside0.mk hmk
    clear hrm hfm hfm2 hbm HD1 HB1 s2 hmk kq
    go_wp2
    go_loopg [69] n (fun gk v69 wr => ∃ i : Nat, i + gk = n ∧ v69 = .int .i64 (i : Int) ∧ Aside0 ((Kd.int .u8).C wr Am n mk) ∧ Aside0 ((Kd.int .u8).R 5 wr w.heap.size (fun _ => True) (.slice (some ⟨gd, 0, none⟩) n c1) (mixL (fun j => Go.bits .xor .u8 (em.getD j 0) (mk.getD j 0)) (fun j => em.getD j 0) n i)) ∧ Aside0 (Below w.heap.size w wr))
    case atStart => exact ⟨0, by omega, rfl, HMK, ⟨by rw [xor_start _ _ _ (by rw [HN.out]; omega)]; exact HD2.out⟩, HB2⟩
    case round =>
      clear HMK HD2 HB2
      obtain ⟨i, hi, rfl, HMK, HD2, HB2⟩ := hrel
      by_cases hlt : (i : Int) < (n : Int)
      · obtain ⟨ad, e1, h1⟩ := Kd.at_int HMK.out 0 (by omega) (by omega)
        obtain ⟨gm, om, rfl⟩ := addr_plain h1
        subst e1
        obtain ⟨ad, e1, h1⟩ := Kd.at_int HMK.out (i : Int) (by omega) hlt
        cases e1
        rw [Int.toNat_natCast, Addr.add_mid] at h1
        obtain ⟨x, hx⟩ : ∃ x, rd mk (i : Int) = x := ⟨_, rfl⟩
        rw [hx] at h1
        obtain ⟨xs, hxs⟩ : ∃ xs, mixL (fun j => Go.bits .xor .u8 (em.getD j 0) (mk.getD j 0)) (fun j => em.getD j 0) n i = xs := ⟨_, rfl⟩
        have hl : xs.length = n := by rw [← hxs, mixL_length]
        have hr := HD2.out
        rw [hxs] at hr
        have hr2 := hr
        rw [← hl] at hr
        have hcell := Kd.R_cell (enc := Value.int .u8) (h1 := fun _ => rfl) 0 hr (i : Int) (by omega) (by rw [hl]; omega)
        obtain ⟨z, hz⟩ : ∃ z, em.getD i 0 = z := ⟨_, rfl⟩
        have hput := Kd.R_putn (enc := Value.int .u8) (h1 := fun _ => rfl) hr2 (i : Int) (Go.bits .xor .u8 z x)
        rw [Int.toNat_natCast] at hcell hput
        have hrd : rdOf (0 : Int) xs (i : Int) = z := by
          show xs.getD ((i : Int).toNat) 0 = z
          rw [Int.toNat_natCast, ← hxs, mixL_at _ _ _ _ _ (by omega) (Nat.le_refl _)]
          exact hz
        rw [hrd] at hcell
        have s2 := hcell.1
        have s3 := hcell.2
        have hnew : xs.set i (Go.bits .xor .u8 z x) = mixL (fun j => Go.bits .xor .u8 (em.getD j 0) (mk.getD j 0)) (fun j => em.getD j 0) n (i + 1) := by
          rw [← mixL_set _ _ _ _ (by omega), hxs, ← hx, ← hz, Base.rd_nat]
        rw [hnew] at hput
        have HPUT := Aside0.mk hput
        have HMP := Aside0.mk (Kd.C_keep (0 : Int) HMK.out (KeepBut.set_ (KeepBut.refl wr gd none) i (.int .u8 (Go.bits .xor .u8 z x))) (fun ad h _ => HFM.out ad h))
        clear hr hr2 hcell hput hnew hxs hl hx hz hrd
        go_wp2
        go_roundg (n - (i + 1))
        case measure => omega
        case rel => exact ⟨i + 1, by omega, by go_num, HMP, HPUT, ⟨below_set HB2.out hgd⟩⟩
      · obtain rfl : i = n := by omega
        obtain ⟨X, hX⟩ : ∃ X, xorD em mk i = X := ⟨_, rfl⟩
        have hXl : X.length = i := by rw [← hX, xorD_length]
        obtain ⟨x0, hx0⟩ : ∃ x, X.getD 0 0 = x := ⟨_, rfl⟩
        have hx01 : 0 ≤ x0 ∧ x0 < 256 := by rw [← hx0, ← hX]; exact xorD_range _ _ _ _
        have hr2 := HD2.out
        rw [xor_end, hX] at hr2
        have hr := hr2
        rw [← hXl] at hr
        have hcell := Kd.R_cell (enc := Value.int .u8) (h1 := fun _ => rfl) 0 hr 0 (by omega) (by rw [hXl]; omega)
        have hput := Kd.R_putn (enc := Value.int .u8) (h1 := fun _ => rfl) hr2 0 (Go.bits .and .u8 x0 (255 / 2 ^ a))
        have s2 : wr.cell? ⟨gd, 0, none⟩ = some (.int .u8 x0) := by
          have h := hcell.1
          rw [show rdOf (0 : Int) X 0 = x0 from hx0] at h
          exact h
        have s3 : wr.frozen? ⟨gd, 0, none⟩ = false := hcell.2
        have HDB : Aside0 (X.set 0 (Go.bits .and .u8 x0 (255 / 2 ^ a)) = dbL em mk i a) := ⟨by
          rw [and_first _ _ c6 hx01.1 hx01.2, dbL, hX, hx0]⟩
        have hput' : (Kd.int .u8).R 5 (wr.setCell ⟨gd, 0, none⟩ (.int .u8 (Go.bits .and .u8 x0 (255 / 2 ^ a)))) w.heap.size (fun _ => True) (.slice (some ⟨gd, 0, none⟩) i c1) (dbL em mk i a) := by
          rw [← HDB.out]
          exact hput
        have HPUT := Aside0.mk hput'
        have HB3 := Aside0.mk (below_set (j := 0) (v := .int .u8 (Go.bits .and .u8 x0 (255 / 2 ^ a))) HB2.out hgd)
        clear hr hr2 hcell hput hput' hX hXl hx0 HDB HD2 hlt
        go_upto_region 12 with (fail)
        go_cut [9] (fun v9 wx => v9 = .slice (some ⟨gd, 0, none⟩) i c1 ∧ Aside0 ((Kd.int .u8).R 5 wx w.heap.size (fun _ => True) (.slice (some ⟨gd, 0, none⟩) i c1) (dbL em mk i a)) ∧ Aside0 (Below w.heap.size w wx))
        case first =>
          go_region
          go_wp2
          go_meet
          case rel => exact ⟨rfl, ⟨Kd.R_drew HPUT.out⟩, ⟨below_drew HB3.out⟩⟩
        case rest =>
          clear s2 s3 HPUT HB3 HB2 HMK HFM HLT
          obtain ⟨rfl, HDB, HB4⟩ := hcut
          have HPT : Aside0 (pssIn em i a hh = if zerosTo (dbL em mk i a) (i - 5) = true ∧ (dbL em mk i a).getD (i - 5) 0 = 1 then eqL (shortL (List.replicate 8 0 ++ hh ++ (dbL em mk i a).drop (i - 4))) W8 else false) := ⟨by
            unfold pssIn
            rw [if_pos ⟨HX.out, by rw [HY.out]; exact q⟩, HW8.out, HMM.out]⟩
          have hdl : (dbL em mk i a).length = i := dbL_length _ _ _ _
          obtain ⟨db, hdb⟩ : ∃ db, dbL em mk i a = db := ⟨_, rfl⟩
          rw [hdb] at HPT HDB hdl
          have HDL := Aside0.mk hdl
          have HCC : i ≤ c1 := (Kd.R_reads' HDB.out).2.1
          clear hdb hdl HX HY HW8 HMM hx01 x0 X hy1 q
          obtain ⟨i5, hi5, hi5s⟩ := Option.map_eq_some_iff.1 info5
          have hab : ∀ W : World, (Instr.slice 22 (.slice (some ⟨gd, 0, none⟩) i c1) none (some (.int .i64 ((i : Int) - 5))) none).run Try.prog W = .ok (.slice (some ⟨gd, 0, none⟩) (i - 5) c1) W := by
            intro W
            have h := cut_to (P := Try.prog) 22 5 .i64 Try.underlying22 hi5 (some ⟨gd, 0, none⟩) i c1 ((i : Int) - 5) (by omega) (by omega) HCC W
            rw [show ((i : Int) - 5).toNat = i - 5 by omega] at h
            exact h
          have HAB : Aside0 (∀ W : World, (Instr.slice 22 (.slice (some ⟨gd, 0, none⟩) i c1) (some (.int .i64 ((i : Int) - 4))) none none).run Try.prog W = .ok (.slice (some ⟨gd, i - 4, none⟩) 4 (c1 - (i - 4))) W) := ⟨by
            intro W
            have h := cut_from (P := Try.prog) 22 5 .i64 Try.underlying22 hi5 1 (by simp only [Prod.mk.injEq] at hi5s; exact hi5s.2.1) (some ⟨gd, 0, none⟩) i c1 ((i : Int) - 4) (by omega) (by omega) W
            rw [show ((i : Int) - 4).toNat = i - 4 by omega, if_neg (by omega), show i - (i - 4) = 4 by omega] at h
            simpa [Addr.add, show i - 4 ≠ 0 by omega] using h⟩
          have hs5 : IntKind.i64.wrap ((i : Int) - 5) = (i : Int) - 5 := (i64_w _).trans (by rw [Base.w64] <;> omega)
          have hl5 : ((i - 5 : Nat) : Int) = (i : Int) - 5 := by omega
          clear hi5 hi5s
          go_wp2
          go_loopg [94] (i - 5) (fun gk v94 wr => ∃ j : Nat, j + gk = i - 5 ∧ v94 = .int .i64 (j : Int) ∧ Aside0 (zerosTo db j = true) ∧ wr = wc)
          case atStart => exact ⟨0, by omega, rfl, ⟨rfl⟩, rfl⟩
          case round =>
            obtain ⟨j, hj, rfl, HZ, hw⟩ := hrel
            obtain rfl := hw.symm
            clear hw
            have hr := HDB.out
            have hdl := HDL.out
            rw [← hdl] at hr
            by_cases hlt : (j : Int) < (i : Int) - 5
            · have hcell := Kd.R_cell (enc := Value.int .u8) (h1 := fun _ => rfl) 0 hr (j : Int) (by omega) (by omega)
              have s2 := hcell.1
              obtain ⟨x, hx⟩ : ∃ x, rdOf (0 : Int) db (j : Int) = x := ⟨_, rfl⟩
              rw [hx, Int.toNat_natCast] at s2
              have HX : Aside0 (db.getD j 0 = x) := ⟨hx⟩
              clear hcell hx hr hdl
              by_cases hz : x = 0
              · subst hz
                have HZ1 := Aside0.mk (zerosTo_succ HX.out HZ.out)
                go_wp2
                go_roundg (i - 5 - (j + 1))
                case measure => omega
                case rel => exact ⟨j + 1, by omega, by go_num, HZ1, rfl⟩
              · have kx : (x != 0) = true := by simpa using hz
                have HE : Aside0 (pssIn em i a hh = false) := ⟨by
                  rw [HPT.out, if_neg]
                  rw [zerosTo_stop (i := j) (by rw [HX.out]; exact hz) (by omega)]
                  simp⟩
                go_wp2
                go_ret
                exact ⟨congrArg (fun b => Ending.returned (Value.bool b)) HE.out.symm, HB4.out⟩
            · obtain rfl : j = i - 5 := by omega
              have hcell := Kd.R_cell (enc := Value.int .u8) (h1 := fun _ => rfl) 0 hr ((i : Int) - 5) (by omega) (by omega)
              have s2 := hcell.1
              obtain ⟨x, hx⟩ : ∃ x, rdOf (0 : Int) db ((i : Int) - 5) = x := ⟨_, rfl⟩
              rw [hx, show ((i : Int) - 5).toNat = i - 5 by omega] at s2
              have HX : Aside0 (db.getD (i - 5) 0 = x) := ⟨by rw [← hx, rdOf, show ((i : Int) - 5).toNat = i - 5 by omega]⟩
              clear hcell hx hr hdl hlt
              by_cases hz : x = 1
              · subst hz
                have hab4 := HAB.out
                have hmk8 := make8
                have hi0 : (5 : Int) ≤ (i : Int) := by omega
                have hi3 : ((i : Int) - 5).toNat = i - 5 := by omega
                have hi1 : (i : Int) - 5 < (i : Int) := by omega
                have hs4 : IntKind.i64.wrap ((i : Int) - 4) = (i : Int) - 4 := (i64_w _).trans (by rw [Base.w64] <;> omega)
                have HPF : Aside0 (pssIn em i a hh = eqL (shortL (List.replicate 8 0 ++ hh ++ db.drop (i - 4))) W8) := ⟨by rw [HPT.out, if_pos ⟨HZ.out, HX.out⟩]⟩
                obtain ⟨X, hX⟩ : ∃ X, List.replicate 8 0 ++ hh ++ db.drop (i - 4) = X := ⟨_, rfl⟩
                rw [hX] at HPF
                have HS2 : Aside0 (∀ W : World, Below wc.heap.size wc W → W.cell? ⟨gd, i - 5, none⟩ = some (.int .u8 1)) := ⟨fun W h => (h.cell (World.block_lt_of_cell? _ _ s2)).trans s2⟩
                have HXL : Aside0 (X.length = 20) := ⟨by rw [← hX, List.length_append, List.length_append, List.length_replicate, HNH.out, List.length_drop, HDL.out]; omega⟩
                have HDT : Aside0 ((Kd.int .u8).C wc (some ⟨gd, i - 4, none⟩) 4 (db.drop (i - 4))) := ⟨by
                  have h0 := (Kd.R_reads' HDB.out).2.2
                  have h := Kd.C_drop (c := c1) (m := i - 4) (k := Kd.int .u8) (xs := db) (w := wc) (A := some ⟨gd, 0, none⟩) h0 (by rw [HDL.out]; omega) (by rw [HDL.out]; exact HCC)
                  rw [if_neg (by omega), List.length_drop, HDL.out, show i - (i - 4) = 4 by omega] at h
                  have e : (Option.map (·.add ((i - 4) * (Kd.int .u8).sz)) (some (⟨gd, 0, none⟩ : Addr))) = some ⟨gd, i - 4, none⟩ := by
                    show some (Addr.add ⟨gd, 0, none⟩ ((i - 4) * 1)) = _
                    rw [Nat.mul_one, Addr.add_mid, Nat.zero_add]
                  rw [e] at h
                  exact h⟩
                have HC32 : Aside0 (Calls Try.prog 32 #[.slice (some ⟨wc.heap.size + 1, 0, none⟩) 3 3] ((wc.alloc (.cells #[.int .u8 0, .int .u8 0, .int .u8 0, .int .u8 0, .int .u8 0, .int .u8 0, .int .u8 0, .int .u8 0] 5)).alloc (.cells #[.slice (some ⟨wc.heap.size, 0, none⟩) 8 8, .slice Ah 8 ch, .slice (some ⟨gd, i - 4, none⟩) 4 (c1 - (i - 4))] 22)).drew fun e w' => ∃ (A' : Option Addr) (c' : Nat), e = .returned (.slice A' 20 c') ∧ Aside0 ((Kd.int .u8).C w' A' 20 X) ∧ Aside0 (Below wc.heap.size wc w') ∧ w'.cell? ⟨gd, i - 5, none⟩ = some (.int .u8 1)) := ⟨by
                  have hbw : Below wc.heap.size wc ((wc.alloc (.cells #[.int .u8 0, .int .u8 0, .int .u8 0, .int .u8 0, .int .u8 0, .int .u8 0, .int .u8 0, .int .u8 0] 5)).alloc (.cells #[.slice (some ⟨wc.heap.size, 0, none⟩) 8 8, .slice Ah 8 ch, .slice (some ⟨gd, i - 4, none⟩) 4 (c1 - (i - 4))] 22)).drew := below_drew (below_alloc (below_alloc (Below.refl _ _) _) _)
                  have hz8 : (Kd.int .u8).C (wc.alloc (.cells #[.int .u8 0, .int .u8 0, .int .u8 0, .int .u8 0, .int .u8 0, .int .u8 0, .int .u8 0, .int .u8 0] 5)) (some ⟨wc.heap.size, 0, none⟩) 8 (List.replicate 8 0) := lit_reads wc (List.replicate 8 0) (by simp)
                  refine (concat3_calls (wc.heap.size + 1) (some ⟨wc.heap.size, 0, none⟩) 8 8 (List.replicate 8 0) Ah 8 ch hh (some ⟨gd, i - 4, none⟩) 4 (c1 - (i - 4)) (db.drop (i - 4)) _ (blk_drew (alloc_at (size_alloc _ _) _)) (Kd.C_drew (Kd.C_alloc hz8 _)) (by simp) (Kd.C_below (Kd.C_below HH.out HB4.out) hbw) HNH.out (Kd.C_below HDT.out hbw) (by rw [List.length_drop, HDL.out]; omega) (by omega) (by omega) (by omega)).mono ?_
                  rintro e w' ⟨A', c', rfl, hr, hb⟩
                  rw [hX] at hr
                  have h3 := (Kd.R_reads' hr).2.2
                  rw [HXL.out] at h3
                  have hb2 := below_step hbw hb
                  exact ⟨A', c', rfl, ⟨h3⟩, ⟨hb2⟩, HS2.out _ hb2⟩⟩
                have HC55 : Aside0 (∀ (W : World) (A : Option Addr) (c' : Nat), (Kd.int .u8).C W A 20 X → Below wc.heap.size wc W → Calls Try.prog 55 #[.slice A 20 c'] W fun e w' => ∃ (A' : Option Addr) (c' : Nat), e = .returned (.slice A' 8 c') ∧ Aside0 (8 ≤ c') ∧ Aside0 ((Kd.int .u8).C w' A' 8 (shortL X)) ∧ Aside0 (Below wc.heap.size wc w') ∧ w'.cell? ⟨gd, i - 5, none⟩ = some (.int .u8 1)) := ⟨by
                  intro W A c' h1 h2
                  refine (short_calls A 20 c' X W h1 HXL.out (by omega)).mono ?_
                  rintro e w' ⟨A', c'', rfl, hc, hr, hb⟩
                  exact ⟨A', c'', rfl, ⟨hc⟩, ⟨hr⟩, ⟨below_step h2 hb⟩, HS2.out _ (below_step h2 hb)⟩⟩
                have HC54 : Aside0 (∀ (W : World) (A : Option Addr) (c' : Nat), 8 ≤ c' → (Kd.int .u8).C W A 8 (shortL X) → Below wc.heap.size wc W → Calls Try.prog 54 #[.slice A 8 c', .slice (some ⟨g0, o0 + i, none⟩) 8 (c - i)] W fun e w' => e = .returned (.bool (eqL (shortL X) W8)) ∧ ∃ nd, w' = W.drewN nd ∧ (W.drewN nd).cell? ⟨gd, i - 5, none⟩ = some (.int .u8 1)) := ⟨by
                  intro W A c' h1 h2 h3
                  have h := bytes_Equal.calls A c' (shortL X) (some ⟨g0, o0 + i, none⟩) (c - i) W8 (eqL (shortL X) W8) W (by rw [shortL_length]; exact h2) (by rw [shortL_length]; exact h1) (by rw [HLW.out]; exact Kd.C_below (Kd.C_below HCW.out HB4.out) h3) (by rw [HLW.out]; omega) rfl
                  rw [shortL_length, HLW.out] at h
                  refine h.mono ?_
                  rintro e w' ⟨rfl, ⟨nd, rfl⟩⟩
                  exact ⟨rfl, nd, rfl, HS2.out _ (pw_below_drewN h3 nd)⟩⟩
                clear hX
                go_wp2
                go_region_held3 (fun w' => w'.cell? ⟨gd, i - 5, none⟩ = some (.int .u8 1)) (go_keep) ((first | (go_at_call 32; refine HC32.out.mono ?_; rintro e w3 ⟨A3, c3, rfl, HCA, HBA, m3⟩) | (go_at_call 55; refine (HC55.out _ A3 c3 HCA.out HBA.out).mono ?_; rintro e w4 ⟨A4, c4, rfl, HKA, HCB, HBB, m4⟩) | (go_at_call 54; refine (HC54.out _ A4 c4 HKA.out HCB.out HBB.out).mono ?_; rintro e w5 ⟨rfl, n5, rfl, m5⟩)))
                go_wp2
                go_ret
                exact ⟨congrArg (fun b => Ending.returned (Value.bool b)) HPF.out.symm, by repeat (first | exact below_step HB4.out HBB.out | apply pw_below_drewN | apply below_drew)⟩
              · have kx : (x == 1) = false := by simpa using hz
                have HE : Aside0 (pssIn em i a hh = false) := ⟨by
                  rw [HPT.out, if_neg]
                  rw [HX.out]
                  exact fun h => hz h.2⟩
                go_wp2
                go_quiet (fail)
                go_wp2
                go_ret
                exact ⟨congrArg (fun b => Ending.returned (Value.bool b)) HE.out.symm, by repeat (first | exact HB4.out | apply pw_below_drewN | apply below_drew)⟩
end Go.Proofs.Ytgfhbkhbnmgogaa.GFnExactPssOk.Hand
