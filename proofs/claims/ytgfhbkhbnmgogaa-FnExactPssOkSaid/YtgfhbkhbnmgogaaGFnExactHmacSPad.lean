import Derived.Test.YtgfhbkhbnmgogaaGFnExactHmacSSha
import Derived.Test.YtgfhbkhbnmgogaaGFnExactHmacHm
namespace Go.Proofs.Ytgfhbkhbnmgogaa.GFnExactHmac.Hand
open Go.RowKit Go.Proofs.YtgfhbkhbnmgogaaW.PrintWords Go.Proofs.YtgfhbkhbnmgogaaW.PrintLast Go.Proofs.YtgfhbkhbnmgogaaW.PrintMore
set_option linter.unusedVariables false
set_option linter.unusedSimpArgs false
/-! ### spec.l5Pad (29), spec.Hmac (8) -/
/-- m elements: the first i by f, the others by h. -/
def mixL (f h : Nat → Int) (m i : Nat) : List Int := (List.range m).map (fun j => if j < i then f j else h j)
theorem mixL_length (f h : Nat → Int) (m i : Nat) : (mixL f h m i).length = m := by simp [mixL]
theorem mixL_get (f h : Nat → Int) (m i j : Nat) (hj : j < m) : (mixL f h m i)[j]? = some (if j < i then f j else h j) := by simp [mixL, hj]
theorem mixL_set (f h : Nat → Int) (m i : Nat) (hi : i < m) : (mixL f h m i).set i (f i) = mixL f h m (i + 1) := by
  apply List.ext_getElem?
  intro j
  rcases Nat.lt_or_ge j m with hj | hj
  · rw [mixL_get _ _ _ _ _ hj]
    by_cases e : i = j
    · subst e
      rw [List.getElem?_set_self (by rw [mixL_length]; exact hj), if_pos (by omega)]
    · rw [List.getElem?_set_ne e, mixL_get _ _ _ _ _ hj]
      congr 1
      by_cases h : j < i
      · rw [if_pos h, if_pos (by omega)]
      · rw [if_neg h, if_neg (by omega)]
  · rw [List.getElem?_eq_none (by rw [List.length_set, mixL_length]; exact hj), List.getElem?_eq_none (by rw [mixL_length]; exact hj)]
theorem mixL_at (f h : Nat → Int) (m i j : Nat) (hj : j < m) (hij : i ≤ j) : (mixL f h m i).getD j 0 = h j := by
  rw [List.getD_eq_getElem?_getD, mixL_get _ _ _ _ _ hj, if_neg (by omega)]
  rfl
theorem mix_whole (key : List Int) : mixL (fun j => (keyL key).getD j 0) (fun _ => 0) 64 (keyL key).length = wholeL key := by
  apply List.ext_getElem?
  intro j
  rcases Nat.lt_or_ge j 64 with hj | hj
  · rw [mixL_get _ _ _ _ _ hj, wholeL]
    by_cases h : j < (keyL key).length
    · rw [if_pos h, List.getElem?_append_left h, List.getD_eq_getElem?_getD, List.getElem?_eq_getElem h]
      rfl
    · rw [if_neg h, List.getElem?_append_right (by omega), List.getElem?_replicate, if_pos (by omega)]
  · rw [List.getElem?_eq_none (by rw [mixL_length]; exact hj), List.getElem?_eq_none (by rw [wholeL_length]; exact hj)]
theorem mix_xor (key : List Int) (a : Int) : mixL (fun j => Go.bits .xor .u8 ((wholeL key).getD j 0) a) (fun j => (wholeL key).getD j 0) 64 64 = xorL (wholeL key) a := by
  have hl := wholeL_length key
  apply List.ext_getElem?
  intro j
  rcases Nat.lt_or_ge j 64 with hj | hj
  · rw [mixL_get _ _ _ _ _ hj, if_pos hj, xorL, List.getElem?_map, List.getD_eq_getElem?_getD, List.getElem?_eq_getElem (by omega)]
    rfl
  · rw [List.getElem?_eq_none (by rw [mixL_length]; exact hj), List.getElem?_eq_none (by rw [xorL_length, hl]; exact hj)]
theorem mix_start (key : List Int) (f : Nat → Int) : mixL f (fun j => (wholeL key).getD j 0) 64 0 = wholeL key := by
  have hl := wholeL_length key
  apply List.ext_getElem?
  intro j
  rcases Nat.lt_or_ge j 64 with hj | hj
  · rw [mixL_get _ _ _ _ _ hj, if_neg (by omega), List.getD_eq_getElem?_getD, List.getElem?_eq_getElem (by omega)]
    rfl
  · rw [List.getElem?_eq_none (by rw [mixL_length]; exact hj), List.getElem?_eq_none (by rw [hl]; exact hj)]
set_option maxHeartbeats 8000000 in
set_option maxRecDepth 100000 in
theorem pad_calls (Ak : Option Addr) (nk ck : Nat) (key : List Int) (a : Int) (w : World) (hk : (Kd.int .u8).C w Ak nk key) (ek : key.length = nk) (lk : nk ≤ 10000) :
    Calls Try.prog 29 #[.slice Ak nk ck, .int .u8 a] w fun e w' => ∃ (A : Option Addr) (c : Nat), e = .returned (.slice A 64 c) ∧ (Kd.int .u8).R 5 w' w.heap.size (fun _ => True) (.slice A 64 c) (xorL (wholeL key) a) ∧ Below w.heap.size w w' := by
  have HK := Aside0.mk hk
  have EK := Aside0.mk ek
  clear hk ek
  go_enter Try.func29, Try.ntmps29
  go_upto_if 10 with (fail)
  go_cut [0] (fun v0 wc => ∃ (A : Option Addr) (n c : Nat), v0 = .slice A n c ∧ n ≤ 64 ∧ Aside0 ((keyL key).length = n) ∧ Aside0 ((Kd.int .u8).C wc A n (keyL key)) ∧ Aside0 (Below w.heap.size w wc))
  case first =>
    by_cases h64 : 64 < nk
    · have c3 : decide ((64 : Int) < (nk : Int)) = true := decide_eq_true (by omega)
      have HKL : Aside0 (keyL key = shaL key) := ⟨by rw [keyL, if_pos (by rw [EK.out]; exact h64)]⟩
      go_wp2_with fail
      refine (ssha_calls Ak nk ck key _ HK.out EK.out (by omega)).mono ?_
      rintro e w1 ⟨v, rfl, hr, hb⟩
      obtain ⟨A, c, e1⟩ := Kd.R_slice hr
      rw [shaL_length] at e1
      subst e1
      have HR := Aside0.mk hr
      have HB := Aside0.mk hb
      clear hr hb
      go_wp2
      go_meet
      case rel => exact ⟨A, 32, c, rfl, by omega, ⟨by rw [HKL.out, shaL_length]⟩, ⟨by rw [HKL.out]; have := (Kd.R_reads' HR.out).2.2; rw [shaL_length] at this; exact this⟩, HB⟩
    · have c3 : decide ((64 : Int) < (nk : Int)) = false := decide_eq_false (by omega)
      have HKL : Aside0 (keyL key = key) := ⟨by rw [keyL, if_neg (by rw [EK.out]; exact h64)]⟩
      go_wp2
      go_meet
      case rel => exact ⟨Ak, nk, ck, rfl, by omega, ⟨by rw [HKL.out, EK.out]⟩, ⟨by rw [HKL.out]; exact HK.out⟩, ⟨Below.refl _ _⟩⟩
  case rest =>
    obtain ⟨A, n, c, rfl, hn, HN, HC, HB⟩ := hcut
    go_wp2_with ((with_reducible refine gate_dst (N := 13) rfl ?_); refine halt_ ?_)
    unfold Halt_
    refine Kd.R_make (Kd.int .u8) (w0 := wc) wc.heap.size 5 rfl (N := 13) rfl 22 (.const (.int .i64 64)) (.const (.int .i64 64)) rfl 64 rfl rfl Try.underlying22 (.int .u8 0) 1 info5 rfl (by decide) (by omega) 0 (ok := fun _ => True) (okp := fun _ => False) rfl (fun _ h => h.elim) trivial (by omega) (by decide) (Below.refl _ _) (Nat.le_refl _) ?_
    intro v5 w5 ho hb hg hat
    obtain ⟨gb, cap, cur, rfl, hgb, _, _⟩ := int_raw ho (by decide)
    have ho' : (Kd.int .u8).R 5 w5 wc.heap.size (fun _ => True) (.slice (some ⟨gb, 0, none⟩) 64 cap) (mixL (fun j => (keyL key).getD j 0) (fun _ => 0) 64 0) := by
      have e : mixL (fun j => (keyL key).getD j 0) (fun _ => 0) 64 0 = List.replicate (64 : Int).toNat 0 := by simp [mixL]; rfl
      rw [e]
      exact ho
    have HO := Aside0.mk ho'
    have HB5 := Aside0.mk hb
    clear ho ho' hb hg hat
    go_wp2
    go_loopg [6] n (fun gk v6 wr => ∃ i : Nat, i + gk = n ∧ v6 = .int .i64 (i : Int) ∧ Aside0 ((Kd.int .u8).R 5 wr wc.heap.size (fun _ => True) (.slice (some ⟨gb, 0, none⟩) 64 cap) (mixL (fun j => (keyL key).getD j 0) (fun _ => 0) 64 i)) ∧ Aside0 (Below wc.heap.size wc wr))
    case atStart => exact ⟨0, by omega, rfl, HO, HB5⟩
    case round =>
      clear HO HB5
      obtain ⟨i, hi, rfl, HO, HB5⟩ := hrel
      by_cases hlt : (i : Int) < (n : Int)
      · obtain ⟨ad, e0, h0⟩ := Kd.at_int HC.out 0 (by omega) (by omega)
        obtain ⟨g0, o0, rfl⟩ := addr_plain h0
        subst e0
        obtain ⟨ad, e1, h1⟩ := Kd.at_int HC.out (i : Int) (by omega) hlt
        cases e1
        rw [Int.toNat_natCast, Addr.add_mid] at h1
        replace h1 := (HB5.out.cell (World.block_lt_of_cell? _ _ h1)).trans h1
        obtain ⟨x, hx⟩ : ∃ x, rd (keyL key) (i : Int) = x := ⟨_, rfl⟩
        rw [hx] at h1
        obtain ⟨xs, hxs⟩ : ∃ xs, mixL (fun j => (keyL key).getD j 0) (fun _ => 0) 64 i = xs := ⟨_, rfl⟩
        have hl : xs.length = 64 := by rw [← hxs, mixL_length]
        have hr := HO.out
        rw [hxs, ← hl] at hr
        have hcell := Kd.R_cell (enc := Value.int .u8) (h1 := fun _ => rfl) 0 hr (i : Int) (by omega) (by rw [hl]; omega)
        have hput := (Kd.R_put (enc := Value.int .u8) (h1 := fun _ => rfl) hr (i : Int) x).1
        rw [Int.toNat_natCast] at hcell hput
        have s2 := hcell.1
        have s3 := hcell.2
        have hnew : xs.set i x = mixL (fun j => (keyL key).getD j 0) (fun _ => 0) 64 (i + 1) := by
          rw [← mixL_set _ _ _ _ (by omega), hxs, ← hx, Base.rd_nat]
        rw [hl, hnew] at hput
        have HPUT := Aside0.mk hput
        clear h0 hr hcell hput hnew hxs hl hx
        go_wp2
        go_roundg (n - (i + 1))
        case measure => omega
        case rel => exact ⟨i + 1, by omega, by go_num, HPUT, ⟨below_set HB5.out hgb⟩⟩
      · obtain rfl : i = n := by omega
        have HO1 : Aside0 ((Kd.int .u8).R 5 wr wc.heap.size (fun _ => True) (.slice (some ⟨gb, 0, none⟩) 64 cap) (mixL (fun j => Go.bits .xor .u8 ((wholeL key).getD j 0) a) (fun j => (wholeL key).getD j 0) 64 0)) := ⟨by
          rw [mix_start]
          have h := HO.out
          rw [← HN.out, mix_whole] at h
          exact h⟩
        clear HO hlt hi
        go_wp2
        go_loopg [7] 64 (fun gk v7 wr => ∃ i : Nat, i + gk = 64 ∧ v7 = .int .i64 (i : Int) ∧ Aside0 ((Kd.int .u8).R 5 wr wc.heap.size (fun _ => True) (.slice (some ⟨gb, 0, none⟩) 64 cap) (mixL (fun j => Go.bits .xor .u8 ((wholeL key).getD j 0) a) (fun j => (wholeL key).getD j 0) 64 i)) ∧ Aside0 (Below wc.heap.size wc wr))
        case atStart => exact ⟨0, rfl, rfl, HO1, HB5⟩
        case round =>
          clear HO1 HB5
          obtain ⟨k, hk, rfl, HO, HB5⟩ := hrel
          by_cases hlt : (k : Int) < 64
          · obtain ⟨x, hx⟩ : ∃ x, (wholeL key).getD k 0 = x := ⟨_, rfl⟩
            obtain ⟨xs, hxs⟩ : ∃ xs, mixL (fun j => Go.bits .xor .u8 ((wholeL key).getD j 0) a) (fun j => (wholeL key).getD j 0) 64 k = xs := ⟨_, rfl⟩
            have hl : xs.length = 64 := by rw [← hxs, mixL_length]
            have hr := HO.out
            rw [hxs, ← hl] at hr
            have hcell := Kd.R_cell (enc := Value.int .u8) (h1 := fun _ => rfl) 0 hr (k : Int) (by omega) (by rw [hl]; omega)
            have hput := (Kd.R_put (enc := Value.int .u8) (h1 := fun _ => rfl) hr (k : Int) (Go.bits .xor .u8 x a)).1
            rw [Int.toNat_natCast] at hcell hput
            have s2 := hcell.1
            have s3 := hcell.2
            have hrd : rdOf (0 : Int) xs (k : Int) = x := by
              show xs.getD ((k : Int).toNat) 0 = x
              rw [Int.toNat_natCast, ← hxs, mixL_at _ _ _ _ _ (by omega) (Nat.le_refl _)]
              exact hx
            rw [hrd] at s2
            have hnew : xs.set k (Go.bits .xor .u8 x a) = mixL (fun j => Go.bits .xor .u8 ((wholeL key).getD j 0) a) (fun j => (wholeL key).getD j 0) 64 (k + 1) := by
              rw [← mixL_set _ _ _ _ (by omega), hxs, ← hx]
            rw [hl, hnew] at hput
            have HPUT := Aside0.mk hput
            clear hr hcell hput hnew hxs hl hx hrd
            go_wp2
            go_roundg (64 - (k + 1))
            case measure => omega
            case rel => exact ⟨k + 1, by omega, by go_num, HPUT, ⟨below_set HB5.out hgb⟩⟩
          · obtain rfl : k = 64 := by omega
            clear hlt
            go_wp2
            go_ret
            refine ⟨_, _, rfl, ?_, below_step HB.out HB5.out⟩
            have h := HO.out
            rw [mix_xor] at h
            exact Kd.R_lower h HB.out.size
set_option maxHeartbeats 8000000 in
set_option maxRecDepth 100000 in
theorem shmac_calls (Ak : Option Addr) (nk ck : Nat) (key : List Int) (Ad : Option Addr) (nd cd : Nat) (data : List Int) (w : World) (hk : (Kd.int .u8).C w Ak nk key) (ek : key.length = nk) (hd : (Kd.int .u8).C w Ad nd data) (ed : data.length = nd) (lk : nk ≤ 10000) (ld : nd ≤ 10000) :
    Calls Try.prog 8 #[.slice Ak nk ck, .slice Ad nd cd] w fun e w' => ∃ v, e = .returned (.tuple #[v, .bool true]) ∧ (Kd.int .u8).R 5 w' w.heap.size (fun _ => True) v (hmacL key data) ∧ Below w.heap.size w w' := by
  have HK := Aside0.mk hk
  have EK := Aside0.mk ek
  have HD := Aside0.mk hd
  have ED := Aside0.mk ed
  have c1 : decide ((10000 : Int) < (nk : Int)) = false := decide_eq_false (by omega)
  have c2 : decide ((10000 : Int) < (nd : Int)) = false := decide_eq_false (by omega)
  clear hk ek hd ed
  go_enter Try.func8, Try.ntmps8
  go_wp2_with fail
  refine (pad_calls Ak nk ck key 54 _ HK.out EK.out lk).mono ?_
  rintro e w1 ⟨A1, cc1, rfl, hr1, hb1⟩
  have HR1 := Aside0.mk hr1
  have HB1 := Aside0.mk hb1
  clear hr1 hb1
  go_wp2_with ((with_reducible refine gate_builtin (b := .append) (xs := #[.tmp 17, .tmp 18]) rfl ?_); refine halt_ ?_)
  unfold Halt_
  at_builtin
  refine Kd.R_append_rows (Kd.int .u8) (w0 := w) w.heap.size rfl (.tmp 17) (.tmp 18) 22 5 (.int .u8 0) 1 rfl Try.underlying22 info5 rfl (by decide) (by omega) (.slice A1 64 cc1) (xorL (wholeL key) 54) data Ad nd cd (fun _ => True) (fun _ => False) rfl rfl HR1.out (Kd.C_below HD.out HB1.out) (fun _ _ h => h) (fun _ h => h.elim) (fun _ _ => trivial) HB1.out HB1.out.size (by rw [xorL_length, wholeL_length]; omega) ?_
  intro v2 w2 ho hb hg hat
  have HLA : Aside0 ((xorL (wholeL key) 54 ++ data).length = 64 + nd) := ⟨by rw [List.length_append, xorL_length, wholeL_length, ED.out]⟩
  obtain ⟨A2, cc2, e2⟩ := Kd.R_slice ho
  rw [HLA.out] at e2
  subst e2
  have HC2 := Aside0.mk (by have := (Kd.R_reads' ho).2.2; rw [HLA.out] at this; exact this)
  have HB2 := Aside0.mk hb
  clear ho hb hg hat HR1
  go_wp2_with fail
  refine (ssha_calls A2 (64 + nd) cc2 (xorL (wholeL key) 54 ++ data) _ HC2.out HLA.out (by omega)).mono ?_
  rintro e w3 ⟨v3, rfl, hr3, hb3⟩
  obtain ⟨A3, cc3, e3⟩ := Kd.R_slice hr3
  rw [shaL_length] at e3
  subst e3
  have HC3 := Aside0.mk (by have := (Kd.R_reads' hr3).2.2; rw [shaL_length] at this; exact this)
  have HB3 := Aside0.mk (below_step HB2.out hb3)
  clear hr3 hb3 HC2
  go_wp2_with fail
  refine (pad_calls Ak nk ck key 92 _ (Kd.C_below HK.out HB3.out) EK.out lk).mono ?_
  rintro e w4 ⟨A4, cc4, rfl, hr4, hb4⟩
  have HR4 := Aside0.mk (Kd.R_lower hr4 HB3.out.size)
  have HB4 := Aside0.mk (below_step HB3.out hb4)
  have HC31 := Aside0.mk (Kd.C_below HC3.out hb4)
  clear hr4 hb4 HC3
  go_wp2_with ((with_reducible refine gate_builtin (b := .append) (xs := #[.tmp 22, .tmp 23]) rfl ?_); refine halt_ ?_)
  unfold Halt_
  at_builtin
  refine Kd.R_append_rows (Kd.int .u8) (w0 := w) w.heap.size rfl (.tmp 22) (.tmp 23) 22 5 (.int .u8 0) 1 rfl Try.underlying22 info5 rfl (by decide) (by omega) (.slice A4 64 cc4) (xorL (wholeL key) 92) (shaL (xorL (wholeL key) 54 ++ data)) A3 32 cc3 (fun _ => True) (fun _ => False) rfl rfl HR4.out HC31.out (fun _ _ h => h) (fun _ h => h.elim) (fun _ _ => trivial) HB4.out HB4.out.size (by rw [xorL_length, wholeL_length]; omega) ?_
  intro v5 w5 ho hb hg hat
  have HLB : Aside0 ((xorL (wholeL key) 92 ++ shaL (xorL (wholeL key) 54 ++ data)).length = 64 + 32) := ⟨by rw [List.length_append, xorL_length, wholeL_length, shaL_length]⟩
  obtain ⟨A5, cc5, e5⟩ := Kd.R_slice ho
  rw [HLB.out] at e5
  subst e5
  have HC5 := Aside0.mk (by have := (Kd.R_reads' ho).2.2; rw [HLB.out] at this; exact this)
  have HB5 := Aside0.mk hb
  clear ho hb hg hat HR4
  go_wp2_with fail
  refine (ssha_calls A5 (64 + 32) cc5 _ _ HC5.out HLB.out (by omega)).mono ?_
  rintro e w6 ⟨v6, rfl, hr6, hb6⟩
  have HR6 := Aside0.mk (Kd.R_lower hr6 HB5.out.size)
  have HB6 := Aside0.mk (below_step HB5.out hb6)
  clear hr6 hb6
  go_wp2
  go_ret2
  exact ⟨_, rfl, HR6.out, HB6.out⟩
end Go.Proofs.Ytgfhbkhbnmgogaa.GFnExactHmac.Hand
