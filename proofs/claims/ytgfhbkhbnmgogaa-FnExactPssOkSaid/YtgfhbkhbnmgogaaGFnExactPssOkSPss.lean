import Derived.Test.YtgfhbkhbnmgogaaGFnExactPssOkPss
namespace Go.Proofs.Ytgfhbkhbnmgogaa.GFnExactPssOk.Hand
open Go.RowKit Go.Proofs.YtgfhbkhbnmgogaaW.PrintWords Go.Proofs.YtgfhbkhbnmgogaaW.PrintLast Go.Proofs.YtgfhbkhbnmgogaaW.PrintMore Go.Proofs.Ytgfhbkhbnmgogaa.GFnExactHmac.Hand
set_option linter.unusedVariables false
set_option linter.unusedSimpArgs false
/-! ### spec.PssOk (26) -/
set_option maxHeartbeats 8000000 in
set_option maxRecDepth 100000 in
theorem spss_calls (A : Option Addr) (L c : Nat) (em : List Int) (b : Int) (Ah : Option Addr) (nh ch : Nat) (hh : List Int) (w : World) (hC : (Kd.int .u8).C w A L em) (hn : em.length = L) (hc : L ≤ c) (hH : (Kd.int .u8).C w Ah nh hh) (hnh : hh.length = nh) (hch : nh ≤ ch) (hL : L ≤ 1048576) (hnL : nh ≤ 1048576) (hb : -9223372036854775808 ≤ b ∧ b < 9223372036854775808) (hby : ∀ i, 0 ≤ rd em i ∧ rd em i < 256) :
    Calls Try.prog 26 #[.slice A L c, .int .i64 b, .slice Ah nh ch] w fun e w' => e = .returned (.bool (pssL em b hh)) ∧ Below w.heap.size w w' := by
  have HC := Aside0.mk hC
  have HN := Aside0.mk hn
  have HH := Aside0.mk hH
  have HNH := Aside0.mk hnh
  have HBY := Aside0.mk hby
  clear hC hn hH hnh hby
  by_cases c1 : 127 ≤ b ∧ b ≤ 511
  case neg =>
    have HIN : Aside0 (spec_l1In.f b 127 511 = some false) := ⟨by unfold spec_l1In.f; by_cases h : b ≥ 127; (rw [if_pos h]; congr 1; exact decide_eq_false (by omega)); rw [if_neg h]⟩
    have HE : Aside0 (pssL em b hh = false) := ⟨if_neg (by omega)⟩
    rw [HE.out]
    go_enter Try.func26, Try.ntmps26
    go_wp2_with fail
    refine (spec_l1In.calls b 127 511 false _ HIN.out).mono ?_
    rintro e w0 ⟨rfl, ⟨nd, rfl⟩⟩
    go_wp2
    go_ret
    exact ⟨rfl, pw_below_drewN (Below.refl _ _) _⟩
  have HIN : Aside0 (spec_l1In.f b 127 511 = some true) := ⟨by unfold spec_l1In.f; rw [if_pos (by omega)]; congr 1; exact decide_eq_true (by omega)⟩
  by_cases c2 : nh = 8
  case neg =>
    have HE : Aside0 (pssL em b hh = false) := ⟨if_neg (by rw [HNH.out]; omega)⟩
    rw [HE.out]
    have k2 : ((nh : Int) != 8) = true := by simp; omega
    go_enter Try.func26, Try.ntmps26
    go_wp2_with fail
    refine (spec_l1In.calls b 127 511 true _ HIN.out).mono ?_
    rintro e w0 ⟨rfl, ⟨nd, rfl⟩⟩
    go_wp2
    go_ret
    exact ⟨rfl, pw_below_drewN (Below.refl _ _) _⟩
  subst c2
  obtain ⟨bn, rfl⟩ : ∃ n : Nat, b = (n : Int) := ⟨b.toNat, by omega⟩
  have hq : IntKind.i64.wrap (((bn : Int) + 7).tdiv 8) = (((bn + 7) / 8 : Nat) : Int) := by
    rw [Int.tdiv_eq_ediv_of_nonneg (by omega)]
    exact (i64_w _).trans (by rw [Base.w64] <;> omega)
  by_cases c3 : L = (bn + 7) / 8
  case neg =>
    have HE : Aside0 (pssL em (bn : Int) hh = false) := ⟨if_neg (by rw [HN.out]; omega)⟩
    rw [HE.out]
    have k3 : ((L : Int) != ((bn : Int) + 7) / 8) = true := by simp; omega
    go_enter Try.func26, Try.ntmps26
    go_wp2_with fail
    refine (spec_l1In.calls (bn : Int) 127 511 true _ HIN.out).mono ?_
    rintro e w0 ⟨rfl, ⟨nd, rfl⟩⟩
    go_wp2
    go_ret
    exact ⟨rfl, pw_below_drewN (Below.refl _ _) _⟩
  obtain ⟨n, rfl⟩ : ∃ n, L = n + 9 := ⟨L - 9, by omega⟩
  have k3 : ((bn : Int) + 7) / 8 = (n : Int) + 9 := by omega
  obtain ⟨a, ha⟩ : ∃ a, 8 * (n + 9) - bn = a := ⟨_, rfl⟩
  have HPI : Aside0 (pssL em (bn : Int) hh = pssIn em n a hh) := ⟨by
    unfold pssL
    rw [if_pos (by rw [HN.out, HNH.out]; omega), HN.out, Int.toNat_natCast]
    congr 1⟩
  rw [HPI.out]
  have c5 : 8 * (n + 9) ≤ bn + 7 ∧ bn + 7 < 8 * (n + 9) + 8 := by omega
  have HA : Aside0 (8 * (n + 9) - bn = a) := ⟨ha⟩
  clear c3 ha hq HPI
  obtain ⟨ad, e0, h1⟩ := Kd.at_int HC.out 0 (by omega) (by omega)
  obtain ⟨g0, o0, rfl⟩ := addr_plain h1
  subst e0
  obtain ⟨ad, e1, h0⟩ := Kd.at_int HC.out ((n + 8 : Nat) : Int) (by omega) (by omega)
  cases e1
  rw [Int.toNat_natCast, Addr.add_mid] at h0
  obtain ⟨x, hx⟩ : ∃ x, rd em ((n + 8 : Nat) : Int) = x := ⟨_, rfl⟩
  rw [hx] at h0
  have HX : Aside0 (em.getD (n + 8) 0 = x) := ⟨by rw [← hx, Base.rd_nat]⟩
  have h8 := h0
  clear hx h0
  obtain ⟨y, hy⟩ : ∃ y, rd em 0 = y := ⟨_, rfl⟩
  rw [hy] at h1
  have HY : Aside0 (em.getD 0 0 = y) := ⟨hy⟩
  have hy1 : 0 ≤ y ∧ y < 256 := by rw [← hy]; exact HBY.out _
  clear hy
  have c6 : a ≤ 7 := by have := HA.out; omega
  have c7 : 7 ≤ n ∧ n ≤ 55 := by omega
  obtain ⟨W8, hW8⟩ : ∃ l, (em.take (n + 8)).drop n = l := ⟨_, rfl⟩
  have HW8 := Aside0.mk hW8
  have HLW : Aside0 (W8.length = 8) := ⟨by rw [← hW8, List.length_drop, List.length_take, HN.out]; omega⟩
  have HCW : Aside0 ((Kd.int .u8).C w (some ⟨g0, o0 + n, none⟩) 8 W8) := ⟨by
    have h := Kd.C_mid (c := c) (lo := n) (hi := n + 8) (k := Kd.int .u8) (xs := em) (w := w) (A := some ⟨g0, o0, none⟩) (by rw [HN.out]; exact HC.out) (by omega) (by rw [HN.out]; omega) (by rw [HN.out]; omega)
    rw [hW8, HLW.out, if_neg (by omega)] at h
    have e : (Option.map (·.add (n * (Kd.int .u8).sz)) (some (⟨g0, o0, none⟩ : Addr))) = some ⟨g0, o0 + n, none⟩ := by
      show some (Addr.add ⟨g0, o0, none⟩ (n * 1)) = _
      rw [Nat.mul_one, Addr.add_mid]
    rw [e] at h
    exact h⟩
  have HCD : Aside0 ((Kd.int .u8).C w (some ⟨g0, o0, none⟩) n (em.take n)) := ⟨by
    have h := Kd.C_take (m := n) (k := Kd.int .u8) (xs := em) (w := w) (A := some ⟨g0, o0, none⟩) (by rw [HN.out]; exact HC.out) (by rw [HN.out]; omega)
    rwa [show (em.take n).length = n by rw [List.length_take, HN.out]; omega] at h⟩
  clear hW8
  have HAB : Aside0 (∀ W : World, (Instr.slice 22 (.slice (some ⟨g0, o0, none⟩) (n + 9) c) none (some (.int .i64 (n : Int))) none).run Try.prog W = .ok (.slice (some ⟨g0, o0, none⟩) n c) W) := ⟨by
    obtain ⟨i5, hi5, hi5s⟩ := Option.map_eq_some_iff.1 info5
    exact cut_to (P := Try.prog) 22 5 .i64 Try.underlying22 hi5 (some ⟨g0, o0, none⟩) (n + 9) c (n : Int) (by omega) (by omega) (by omega)⟩
  have HAM : Aside0 (∀ W : World, (Instr.slice 22 (.slice (some ⟨g0, o0, none⟩) (n + 9) c) (some (.int .i64 (n : Int))) (some (.int .i64 ((n : Int) + 9 - 1))) none).run Try.prog W = .ok (.slice (some ⟨g0, o0 + n, none⟩) 8 (c - n)) W) := ⟨by
    obtain ⟨i5, hi5, hi5s⟩ := Option.map_eq_some_iff.1 info5
    simp only [Prod.mk.injEq] at hi5s
    intro W
    have h := cut_mid (P := Try.prog) 22 5 .i64 .i64 Try.underlying22 hi5 1 hi5s.2.1 (some ⟨g0, o0, none⟩) (n + 9) c (n : Int) ((n : Int) + 9 - 1) (by omega) (by omega) (by omega) (by omega) W
    rw [show ((n : Int) + 9 - 1).toNat = n + 8 by omega, Int.toNat_natCast, if_neg (by omega), show n + 8 - n = 8 by omega] at h
    rw [h]
    simp [Addr.add, show n ≠ 0 by omega]⟩
  have h1b : w.cell? ⟨g0, o0, none⟩ = some (.int .u8 y) := h1
  clear h1
  have hA2 : 8 * ((n : Int) + 9) - (bn : Int) = (a : Int) := by have := HA.out; omega
  go_enter Try.func26, Try.ntmps26
  go_wp2_with fail
  refine (spec_l1In.calls (bn : Int) 127 511 true _ HIN.out).mono ?_
  rintro e w0 ⟨rfl, ⟨nd, rfl⟩⟩
  go_upto_region 4 with (fail)
  have hab := HAB.out
  have ham := HAM.out
  go_cut [8, 9] (fun v8 v9 wc => v8 = .slice (some ⟨g0, o0 + n, none⟩) 8 (c - n) ∧ v9 = .slice (some ⟨g0, o0, none⟩) n c ∧ ∃ n1 n2, wc = (w.drewN n1).drewN n2)
  case first =>
    go_quiet (fail)
    go_wp2
    go_meet
    case rel => exact ⟨rfl, rfl, _, _, rfl⟩
  case rest =>
    obtain ⟨rfl, rfl, n1, n2, rfl⟩ := hcut
    clear ham hab HAB HAM HIN
    by_cases c4 : x = 188
    case neg =>
      have k4 : (x != 188) = true := by simpa using c4
      have HE : Aside0 (pssIn em n a hh = false) := ⟨if_neg (by rw [HX.out]; omega)⟩
      go_wp2
      go_ret
      exact ⟨congrArg (fun b => Ending.returned (Value.bool b)) HE.out.symm, pw_below_drewN (Below.refl _ _) _⟩
    subst c4
    by_cases q : y / 2 ^ (8 - a) = 0
    case neg =>
      have kq : (y / 2 ^ (8 - a) != 0) = true := by simpa using q
      have HE : Aside0 (pssIn em n a hh = false) := ⟨if_neg (by rw [HY.out]; exact fun h => q h.2)⟩
      go_wp2
      go_ret
      exact ⟨congrArg (fun b => Ending.returned (Value.bool b)) HE.out.symm, pw_below_drewN (Below.refl _ _) _⟩
    have kq : (y / 2 ^ (8 - a) != 0) = false := by simpa using q
    go_wp2_with fail
    refine (smask_calls (some ⟨g0, o0 + n, none⟩) 8 (c - n) W8 n _ (Kd.C_drewN HCW.out _) HLW.out (by omega) (by omega) (by omega)).mono ?_
    rintro e wM ⟨Am, cm, rfl, hcm, hrm, hbm⟩
    have HBM := Aside0.mk (below_step (pw_below_drewN (Below.refl w.heap.size w) _) hbm)
    obtain ⟨mk, hmk⟩ : ∃ mk, maskL W8 n = mk := ⟨_, rfl⟩
    have HML : Aside0 (mk.length = n) := ⟨by rw [← hmk, maskL_length]⟩
    rw [hmk] at hrm
    have HMK := Aside0.mk hrm
    have HMM := Aside0.mk hmk
    have HCM := Aside0.mk (Kd.C_below HC.out HBM.out)
    clear hrm hbm hmk kq h1b h8
    go_wp2
    go_loopg [13, 14] n (fun gk v13 v14 wr => ∃ (i : Nat) (B : Option Addr) (d : Nat), i + gk = n ∧ v14 = .int .i64 (i : Int) ∧ v13 = .slice B i d ∧ Aside0 ((Kd.int .u8).R 5 wr wM.heap.size (fun _ => True) (.slice B i d) (xorD em mk i)) ∧ Aside0 (Below wM.heap.size wM wr))
    case atStart => exact ⟨0, _, _, by omega, rfl, rfl, ⟨u8lit (base := wM.heap.size) wM [] (by decide) (Nat.le_refl _)⟩, ⟨below_alloc (Below.refl _ _) _⟩⟩
    case round =>
      obtain ⟨i, B, d, hi, rfl, rfl, HO, HB⟩ := hrel
      by_cases hlt : (i : Int) < (n : Int)
      · obtain ⟨ad, e1, h1⟩ := Kd.at_int HCM.out (i : Int) (by omega) (by omega)
        cases e1
        rw [Int.toNat_natCast, Addr.add_mid] at h1
        obtain ⟨ad, e1, h2⟩ := Kd.at_int HMK.out 0 (by omega) (by omega)
        obtain ⟨gm, om, rfl⟩ := addr_plain h2
        subst e1
        obtain ⟨ad, e1, h2⟩ := Kd.at_int HMK.out (i : Int) (by omega) hlt
        cases e1
        rw [Int.toNat_natCast, Addr.add_mid] at h2
        obtain ⟨x, hx⟩ : ∃ x, rd em (i : Int) = x := ⟨_, rfl⟩
        obtain ⟨z, hz⟩ : ∃ z, rd mk (i : Int) = z := ⟨_, rfl⟩
        rw [hx] at h1
        rw [hz] at h2
        have HS1 : Aside0 (∀ W : World, Below wM.heap.size wM W → W.cell? ⟨g0, o0 + i, none⟩ = some (.int .u8 x) ∧ W.cell? ⟨gm, om + i, none⟩ = some (.int .u8 z)) := ⟨fun W h => ⟨(h.cell (World.block_lt_of_cell? _ _ h1)).trans h1, (h.cell (World.block_lt_of_cell? _ _ h2)).trans h2⟩⟩
        clear h1 h2
        obtain ⟨m1, m2⟩ := HS1.out wr HB.out
        have HNX : Aside0 (xorD em mk i ++ [Go.bits .xor .u8 x z] = xorD em mk (i + 1)) := ⟨by
          rw [xorD, xorD, List.range_succ, List.map_append, ← hx, ← hz, Base.rd_nat, Base.rd_nat]
          rfl⟩
        clear hx hz
        go_wp2
        go_region_held3 (fun w' => w'.cell? ⟨g0, o0 + i, none⟩ = some (.int .u8 x) ∧ w'.cell? ⟨gm, om + i, none⟩ = some (.int .u8 z)) (go_keep) ((refine Kd.R_append_rows_step (Kd.int .u8) (w0 := wM) wM.heap.size rfl (.tmp 79) (.tmp 89) 22 5 (.int .u8 0) 1 rfl Try.underlying22 info5 rfl (by decide) (by omega) (.slice B i d) (xorD em mk i) [Go.bits .xor .u8 x z] (some ⟨wr.heap.size, 0, none⟩) 1 1 (fun _ => True) (fun _ => False) rfl rfl (Kd.R_below HO.out (below_alloc (below_drew (Below.refl _ _)) _)) (lit_reads wr.drew [Go.bits .xor .u8 x z] (by simp)) (fun _ _ h => h) (fun _ h => h.elim) (fun _ _ => trivial) (below_alloc (below_drew HB.out) _) (below_alloc (below_drew HB.out) _).size (by rw [xorD_length]; omega) ?_; intro v9 w9 ho hb hg hat; (obtain ⟨m3, m4⟩ := HS1.out w9 hb)))
        obtain ⟨A9, c9, e9⟩ := Kd.R_slice ho
        rw [HNX.out, xorD_length] at e9
        subst e9
        rw [HNX.out] at ho
        have HO9 := Aside0.mk ho
        have HB9 := Aside0.mk hb
        clear ho hb hg hat
        go_wp2
        go_roundg (n - (i + 1))
        case measure => omega
        case rel => exact ⟨i + 1, A9, c9, by omega, by go_num, rfl, HO9, HB9⟩
      · obtain rfl : n = i := by omega
        obtain ⟨X, hX⟩ : ∃ X, xorD em mk n = X := ⟨_, rfl⟩
        have hXl : X.length = n := by rw [← hX, xorD_length]
        obtain ⟨x0, hx0⟩ : ∃ x, X.getD 0 0 = x := ⟨_, rfl⟩
        have hx01 : 0 ≤ x0 ∧ x0 < 256 := by rw [← hx0, ← hX]; exact xorD_range _ _ _ _
        have hr2 := HO.out
        rw [hX] at hr2
        obtain ⟨gd, cap, cur, e1, hgd, hq1, hq2⟩ := int_raw hr2 (by intro e; have h := congrArg List.length e; rw [hXl] at h; simp at h; omega)
        injection e1 with e1 e2 e3
        subst e1 e3
        clear e2 hq1 hq2
        have hr := hr2
        rw [← hXl] at hr
        have hcell := Kd.R_cell (enc := Value.int .u8) (h1 := fun _ => rfl) 0 hr 0 (by omega) (by rw [hXl]; omega)
        have hput := Kd.R_putn (enc := Value.int .u8) (h1 := fun _ => rfl) hr2 0 (x0 % 2 ^ (8 - a))
        have s2 : wr.cell? ⟨gd, 0, none⟩ = some (.int .u8 x0) := by
          have h := hcell.1
          rw [show rdOf (0 : Int) X 0 = x0 from hx0] at h
          exact h
        have s3 : wr.frozen? ⟨gd, 0, none⟩ = false := hcell.2
        have hput' : (Kd.int .u8).R 5 (wr.setCell ⟨gd, 0, none⟩ (.int .u8 (x0 % 2 ^ (8 - a)))) wM.heap.size (fun _ => True) (.slice (some ⟨gd, 0, none⟩) n d) (dbL em mk n a) := by
          rw [dbL, hX, hx0]
          exact hput
        have HPUT := Aside0.mk hput'
        have HB3 := Aside0.mk (below_set (j := 0) (v := .int .u8 (x0 % 2 ^ (8 - a))) HB.out hgd)
        have hn0 : (0 : Int) < (n : Int) := by omega
        clear hr hr2 hcell hput hput' hX hXl hx0 hlt
        go_upto_region 14 with (fail)
        go_cut [13] (fun v13 wx => v13 = .slice (some ⟨gd, 0, none⟩) n d ∧ Aside0 ((Kd.int .u8).R 5 wx wM.heap.size (fun _ => True) (.slice (some ⟨gd, 0, none⟩) n d) (dbL em mk n a)) ∧ Aside0 (Below wM.heap.size wM wx))
        case first =>
          rcases (by omega : a = 0 ∨ a = 1 ∨ a = 2 ∨ a = 3 ∨ a = 4 ∨ a = 5 ∨ a = 6 ∨ a = 7) with rfl | rfl | rfl | rfl | rfl | rfl | rfl | rfl
          all_goals (
            go_region
            go_wp2
            go_meet
            case rel => exact ⟨rfl, ⟨Kd.R_drew HPUT.out⟩, ⟨below_drew HB3.out⟩⟩)
        case rest =>
          obtain ⟨rfl, HDB, HB4⟩ := hcut
          clear s2 s3 HPUT HB3 HB HO
          have HPT : Aside0 (pssIn em n a hh = if zerosTo (dbL em mk n a) (n - 5) = true ∧ (dbL em mk n a).getD (n - 5) 0 = 1 then eqL (shortL (List.replicate 8 0 ++ hh ++ (dbL em mk n a).drop (n - 4))) W8 else false) := ⟨by
            unfold pssIn
            rw [if_pos ⟨HX.out, by rw [HY.out]; exact q⟩, HW8.out, HMM.out]⟩
          have hdl : (dbL em mk n a).length = n := dbL_length _ _ _ _
          obtain ⟨db, hdb⟩ : ∃ db, dbL em mk n a = db := ⟨_, rfl⟩
          rw [hdb] at HPT HDB hdl
          have HDL := Aside0.mk hdl
          have HCC : n ≤ d := (Kd.R_reads' HDB.out).2.1
          clear hdb hdl HX HY HW8 HMM hx01 x0 X hy1 q hA2 HA HMK HML HCM
          obtain ⟨i5, hi5, hi5s⟩ := Option.map_eq_some_iff.1 info5
          have HAB : Aside0 (∀ W : World, (Instr.slice 22 (.slice (some ⟨gd, 0, none⟩) n d) (some (.int .i64 ((n : Int) - 4))) none none).run Try.prog W = .ok (.slice (some ⟨gd, n - 4, none⟩) 4 (d - (n - 4))) W) := ⟨by
            intro W
            have h := cut_from (P := Try.prog) 22 5 .i64 Try.underlying22 hi5 1 (by simp only [Prod.mk.injEq] at hi5s; exact hi5s.2.1) (some ⟨gd, 0, none⟩) n d ((n : Int) - 4) (by omega) (by omega) W
            rw [show ((n : Int) - 4).toNat = n - 4 by omega, if_neg (by omega), show n - (n - 4) = 4 by omega] at h
            simpa [Addr.add, show n - 4 ≠ 0 by omega] using h⟩
          have hs5 : IntKind.i64.wrap ((n : Int) - 5) = (n : Int) - 5 := (i64_w _).trans (by rw [Base.w64] <;> omega)
          have hi0 : (5 : Int) ≤ (n : Int) := by omega
          have hi3 : ((n : Int) - 5).toNat = n - 5 := by omega
          clear hi5 hi5s
          go_wp2
          go_loopg [15] (n - 5) (fun gk v15 wr => ∃ j : Nat, j + gk = n - 5 ∧ v15 = .int .i64 (j : Int) ∧ Aside0 (zerosTo db j = true) ∧ wr = wc)
          case atStart => exact ⟨0, by omega, rfl, ⟨rfl⟩, rfl⟩
          case round =>
            obtain ⟨j, hj, rfl, HZ, hw⟩ := hrel
            obtain rfl := hw.symm
            clear hw
            have hr := HDB.out
            have hdl := HDL.out
            rw [← hdl] at hr
            by_cases hlt : (j : Int) < (n : Int) - 5
            · have hcell := Kd.R_cell (enc := Value.int .u8) (h1 := fun _ => rfl) 0 hr (j : Int) (by omega) (by omega)
              have s2 := hcell.1
              obtain ⟨x, hx⟩ : ∃ x, rdOf (0 : Int) db (j : Int) = x := ⟨_, rfl⟩
              rw [hx, Int.toNat_natCast] at s2
              have HX : Aside0 (db.getD j 0 = x) := ⟨hx⟩
              have hj0 : (j : Int) < (n : Int) := by omega
              clear hcell hx hr hdl
              by_cases hz : x = 0
              · subst hz
                have HZ1 := Aside0.mk (zerosTo_succ HX.out HZ.out)
                go_wp2
                go_roundg (n - 5 - (j + 1))
                case measure => omega
                case rel => exact ⟨j + 1, by omega, by go_num, HZ1, rfl⟩
              · have kx : (x != 0) = true := by simpa using hz
                have HE : Aside0 (pssIn em n a hh = false) := ⟨by
                  rw [HPT.out, if_neg]
                  rw [zerosTo_stop (i := j) (by rw [HX.out]; exact hz) (by omega)]
                  simp⟩
                go_wp2
                go_ret
                exact ⟨congrArg (fun b => Ending.returned (Value.bool b)) HE.out.symm, below_step HBM.out HB4.out⟩
            · obtain rfl : j = n - 5 := by omega
              have hcell := Kd.R_cell (enc := Value.int .u8) (h1 := fun _ => rfl) 0 hr ((n : Int) - 5) (by omega) (by omega)
              have s2 := hcell.1
              obtain ⟨x, hx⟩ : ∃ x, rdOf (0 : Int) db ((n : Int) - 5) = x := ⟨_, rfl⟩
              rw [hx, show ((n : Int) - 5).toNat = n - 5 by omega] at s2
              have HX : Aside0 (db.getD (n - 5) 0 = x) := ⟨by rw [← hx, rdOf, show ((n : Int) - 5).toNat = n - 5 by omega]⟩
              have hl5 : ((n - 5 : Nat) : Int) = (n : Int) - 5 := by omega
              clear hcell hx hr hdl hlt
              by_cases hz : x = 1
              · subst hz
                have hab4 := HAB.out
                have hmk8 := make8
                have hs4 : IntKind.i64.wrap ((n : Int) - 4) = (n : Int) - 4 := (i64_w _).trans (by rw [Base.w64] <;> omega)
                obtain ⟨X, hX⟩ : ∃ X, List.replicate 8 0 ++ hh ++ db.drop (n - 4) = X := ⟨_, rfl⟩
                have HPF : Aside0 (pssIn em n a hh = eqL (shortL X) W8) := ⟨by rw [HPT.out, if_pos ⟨HZ.out, HX.out⟩, hX]⟩
                have HXL : Aside0 (X.length = 20) := ⟨by rw [← hX, List.length_append, List.length_append, List.length_replicate, HNH.out, List.length_drop, HDL.out]; omega⟩
                have HXX := Aside0.mk hX
                have HBC := Aside0.mk (below_step HBM.out HB4.out)
                have HHC := Aside0.mk (Kd.C_below HH.out HBC.out)
                have HDT : Aside0 ((Kd.int .u8).C wc (some ⟨gd, n - 4, none⟩) 4 (db.drop (n - 4))) := ⟨by
                  have h0 := (Kd.R_reads' HDB.out).2.2
                  have h := Kd.C_drop (c := d) (m := n - 4) (k := Kd.int .u8) (xs := db) (w := wc) (A := some ⟨gd, 0, none⟩) h0 (by rw [HDL.out]; omega) (by rw [HDL.out]; exact HCC)
                  rw [if_neg (by omega), List.length_drop, HDL.out, show n - (n - 4) = 4 by omega] at h
                  have e : (Option.map (·.add ((n - 4) * (Kd.int .u8).sz)) (some (⟨gd, 0, none⟩ : Addr))) = some ⟨gd, n - 4, none⟩ := by
                    show some (Addr.add ⟨gd, 0, none⟩ ((n - 4) * 1)) = _
                    rw [Nat.mul_one, Addr.add_mid, Nat.zero_add]
                  rw [e] at h
                  exact h⟩
                have HZ8 : Aside0 (∀ W : World, wc.heap.size ≤ W.heap.size → (Kd.int .u8).R 5 (W.alloc (.cells #[.int .u8 0, .int .u8 0, .int .u8 0, .int .u8 0, .int .u8 0, .int .u8 0, .int .u8 0, .int .u8 0] 5)) wc.heap.size (fun _ => True) (.slice (some ⟨W.heap.size, 0, none⟩) 8 8) (List.replicate 8 0)) := ⟨fun W h => u8lit (base := wc.heap.size) W (List.replicate 8 0) (by simp) h⟩
                clear hX
                go_upto_region 22 with (fail)
                go_cut [16] (fun v16 wx => ∃ (A : Option Addr) (c' : Nat), v16 = .slice A 20 c' ∧ Aside0 ((Kd.int .u8).C wx A 20 X) ∧ Aside0 (Below w.heap.size w wx))
                case first =>
                  clear hl5
                  go_region_held3 (fun _ => True) (go_keep) ((first | (refine Kd.R_append_rows_step (Kd.int .u8) (w0 := wc) wc.heap.size rfl (.tmp 121) (.tmp 122) 22 5 (.int .u8 0) 1 rfl Try.underlying22 info5 rfl (by decide) (by omega) (.slice (some ⟨wc.heap.size, 0, none⟩) 8 8) (List.replicate 8 0) hh Ah 8 ch (fun _ => True) (fun _ => False) rfl rfl (by first | exact HZ8.out _ (Nat.le_refl _) | exact Kd.R_drew (HZ8.out _ (Nat.le_refl _)) | exact HZ8.out wc.drew (Nat.le_refl _)) (Kd.C_below HHC.out (by repeat (first | exact Below.refl _ _ | apply below_alloc | apply below_drew))) (fun _ _ h => h) (fun _ h => h.elim) (fun _ _ => trivial) (by repeat (first | exact Below.refl _ _ | apply below_alloc | apply below_drew)) (below_size (by repeat (first | exact Below.refl _ _ | apply below_alloc | apply below_drew))) (by simp) ?_; intro v9 w9 ho hb hg hat; have HO9 := Aside0.mk ho; have HB9 := Aside0.mk hb; clear ho hb hg hat) | (refine Kd.R_append_rows_step (Kd.int .u8) (w0 := wc) wc.heap.size rfl (.tmp 123) (.tmp 128) 22 5 (.int .u8 0) 1 rfl Try.underlying22 info5 rfl (by decide) (by omega) v9 (List.replicate 8 0 ++ hh) (db.drop (n - 4)) (some ⟨gd, n - 4, none⟩) 4 (d - (n - 4)) (fun _ => True) (fun _ => False) rfl rfl HO9.out (Kd.C_below HDT.out HB9.out) (fun _ _ h => h) (fun _ h => h.elim) (fun _ _ => trivial) HB9.out HB9.out.size (by rw [List.length_append, List.length_replicate, HNH.out]; omega) ?_; intro v10 w10 ho hb hg hat; have HO10 := Aside0.mk ho; have HB10 := Aside0.mk hb; clear ho hb hg hat)))
                  go_wp2
                  go_meet
                  case rel =>
                    have ho := HO10.out
                    rw [HXX.out] at ho
                    obtain ⟨A, c', e⟩ := Kd.R_slice ho
                    have h3 := (Kd.R_reads' (e ▸ ho)).2.2
                    rw [HXL.out] at e h3
                    exact ⟨A, c', e, ⟨h3⟩, ⟨below_step HBC.out HB10.out⟩⟩
                case rest =>
                  obtain ⟨A5, c5', rfl, HC5, HB5⟩ := hcut
                  go_wp2_with fail
                  refine (sshort_calls A5 20 c5' X _ HC5.out HXL.out (by omega)).mono ?_
                  rintro e w6 ⟨A6, c6', rfl, hc6, hr6, hb6⟩
                  have HB6 := Aside0.mk (below_step HB5.out hb6)
                  have HS := spec_l1Same.calls A6 c6' (shortL X) (some ⟨g0, o0 + n, none⟩) (c - n) W8 (eqL (shortL X) W8) w6 (by rw [shortL_length]; exact hr6) (by rw [shortL_length]; exact hc6) (by rw [HLW.out]; exact Kd.C_below HCW.out HB6.out) (by rw [HLW.out]; omega) rfl
                  rw [shortL_length, HLW.out] at HS
                  have HS' := Aside0.mk HS
                  clear HS hr6 hb6
                  go_wp2_with fail
                  refine HS'.out.mono ?_
                  rintro e w7 ⟨rfl, ⟨n7, rfl⟩⟩
                  go_wp2
                  go_ret
                  exact ⟨congrArg (fun b => Ending.returned (Value.bool b)) HPF.out.symm, pw_below_drewN HB6.out n7⟩
              · have kx : (x != 1) = true := by simpa using hz
                have HE : Aside0 (pssIn em n a hh = false) := ⟨by
                  rw [HPT.out, if_neg]
                  rw [HX.out]
                  exact fun h => hz h.2⟩
                go_wp2
                go_ret
                exact ⟨congrArg (fun b => Ending.returned (Value.bool b)) HE.out.symm, below_step HBM.out HB4.out⟩
end Go.Proofs.Ytgfhbkhbnmgogaa.GFnExactPssOk.Hand
