import Derived.Test.YtgfhbkhbnmgogaaGFnExactHmacSha2
namespace Go.Proofs.Ytgfhbkhbnmgogaa.GFnExactHmac.Hand
open Go.RowKit Go.Proofs.YtgfhbkhbnmgogaaW.PrintWords Go.Proofs.YtgfhbkhbnmgogaaW.PrintLast Go.Proofs.YtgfhbkhbnmgogaaW.PrintMore
set_option linter.unusedVariables false
set_option linter.unusedSimpArgs false
/-! ### impl.Hmac (10) -/
def xorL (l : List Int) (a : Int) : List Int := l.map (fun x => Go.bits .xor .u8 x a)
def keyL (key : List Int) : List Int := if 64 < key.length then shaL key else key
def wholeL (key : List Int) : List Int := keyL key ++ List.replicate (64 - (keyL key).length) 0
def hmacL (key data : List Int) : List Int := shaL (xorL (wholeL key) 92 ++ shaL (xorL (wholeL key) 54 ++ data))
theorem keyL_le (key : List Int) : (keyL key).length ≤ 64 := by
  unfold keyL
  by_cases h : 64 < key.length
  · rw [if_pos h, shaL_length]; omega
  · rw [if_neg h]; omega
theorem wholeL_length (key : List Int) : (wholeL key).length = 64 := by
  have := keyL_le key
  simp [wholeL]
  omega
theorem xorL_length (l : List Int) (a : Int) : (xorL l a).length = l.length := by simp [xorL]
theorem crossed_some (l : List Int) (a : Int) (hl : l.length ≤ 1000) : ∃ k, impl_crossed.f k l a = some (xorL l a) := by
  have key : ∀ (d i : Nat) (acc : List Int), i + d = l.length → acc = xorL (l.take i) a → impl_crossed.l0 (d + 1) a acc l (l.length : Int) (i : Int) = some (xorL l a) := by
    intro d
    induction d with
    | zero =>
      intro i acc hi ha
      rw [impl_crossed.l0.eq_2, if_neg (by omega), ha, List.take_of_length_le (by omega)]
    | succ d ih =>
      intro i acc hi ha
      rw [impl_crossed.l0.eq_2, if_pos (by omega), if_pos (by omega), if_pos (by omega), if_pos (by rw [ha, xorL_length]; simp; omega), Base.w64 (by omega) (by omega)]
      have h := ih (i + 1) (acc ++ [Go.bits .xor .u8 (rd l (i : Int)) a]) (by omega) (by
        rw [ha, Base.rd_nat]
        unfold xorL
        rw [show l.take (i + 1) = l.take i ++ [l.getD i 0] by
          rw [List.take_add_one, List.getD_eq_getElem?_getD, List.getElem?_eq_getElem (by omega)]
          rfl]
        simp)
      exact h
  exact ⟨l.length + 1, key l.length 0 [] (by omega) (by simp [xorL])⟩
theorem crossed_calls (A : Option Addr) (n c : Nat) (l : List Int) (a : Int) (w : World) (hC : (Kd.int .u8).C w A n l) (hn : l.length = n) (hl : n ≤ 1000) (hc : n ≤ c) : Calls Try.prog 33 #[.slice A n c, .int .u8 a] w fun e w' => ∃ (A' : Option Addr) (c' : Nat), e = .returned (.slice A' n c') ∧ (Kd.int .u8).R 5 w' w.heap.size (fun _ => True) (.slice A' n c') (xorL l a) ∧ Below w.heap.size w w' := by
  subst hn
  obtain ⟨k, hk⟩ := crossed_some l a hl
  refine (impl_crossed.calls k A c l a (xorL l a) w hC hc hk).mono ?_
  rintro e w' ⟨v, rfl, hr, hb⟩
  obtain ⟨A', c', e1⟩ := Kd.R_slice hr
  rw [xorL_length] at e1
  subst e1
  exact ⟨A', c', rfl, hr, hb⟩
set_option maxHeartbeats 8000000 in
set_option maxRecDepth 100000 in
theorem hmac_calls (Ak : Option Addr) (nk ck : Nat) (key : List Int) (Ad : Option Addr) (nd cd : Nat) (data : List Int) (w : World) (hk : (Kd.int .u8).C w Ak nk key) (ek : key.length = nk) (hd : (Kd.int .u8).C w Ad nd data) (ed : data.length = nd) (lk : nk ≤ 10000) (ld : nd ≤ 10000) :
    Calls Try.prog 10 #[.slice Ak nk ck, .slice Ad nd cd] w fun e w' => ∃ v, e = .returned (.tuple #[v, .bool true]) ∧ (Kd.int .u8).R 5 w' w.heap.size (fun _ => True) v (hmacL key data) ∧ Below w.heap.size w w' := by
  have HK := Aside0.mk hk
  have EK := Aside0.mk ek
  have HD := Aside0.mk hd
  have ED := Aside0.mk ed
  have c1 : decide ((10000 : Int) < (nk : Int)) = false := decide_eq_false (by omega)
  have c2 : decide ((10000 : Int) < (nd : Int)) = false := decide_eq_false (by omega)
  clear hk ek hd ed
  go_enter Try.func10, Try.ntmps10
  go_upto_if 18 with (fail)
  go_cut [0] (fun v0 wc => ∃ (A : Option Addr) (n c : Nat), v0 = .slice A n c ∧ n ≤ 64 ∧ Aside0 ((keyL key).length = n) ∧ Aside0 ((Kd.int .u8).C wc A n (keyL key)) ∧ Aside0 (Below w.heap.size w wc))
  case first =>
    by_cases h64 : 64 < nk
    · have c3 : decide ((64 : Int) < (nk : Int)) = true := decide_eq_true (by omega)
      have HKL : Aside0 (keyL key = shaL key) := ⟨by rw [keyL, if_pos (by rw [EK.out]; exact h64)]⟩
      go_wp2_with fail
      refine (sha_calls Ak nk ck key _ HK.out EK.out (by omega)).mono ?_
      rintro e w1 ⟨v, rfl, hr, hb⟩
      obtain ⟨A, c, e1⟩ := Kd.R_slice hr
      rw [shaL_length] at e1
      subst e1
      have HR := Aside0.mk hr
      have HB := Aside0.mk hb
      clear hr hb
      go_wp2
      go_meet
      case rel => exact ⟨A, 32, c, rfl, by omega, ⟨by rw [HKL.out, shaL_length]⟩, ⟨by rw [HKL.out]; have := (Kd.R_reads' HR.out).2.2; rw [shaL_length] at this; exact this⟩, HB⟩
    · have c3 : decide ((64 : Int) < (nk : Int)) = false := decide_eq_false (by omega)
      have HKL : Aside0 (keyL key = key) := ⟨by rw [keyL, if_neg (by rw [EK.out]; exact h64)]⟩
      go_wp2
      go_meet
      case rel => exact ⟨Ak, nk, ck, rfl, by omega, ⟨by rw [HKL.out, EK.out]⟩, ⟨by rw [HKL.out]; exact HK.out⟩, ⟨Below.refl _ _⟩⟩
  case rest =>
    obtain ⟨A, n, c, rfl, hn, HN, HC, HB⟩ := hcut
    have hsub : IntKind.i64.wrap (64 - (n : Int)) = ((64 - n : Nat) : Int) := (i64_w _).trans (by rw [Base.w64] <;> omega)
    go_wp2_with fail
    refine (clone_calls A n c (keyL key) _ HC.out HN.out (by omega)).mono ?_
    rintro e w2 ⟨A2, c2, rfl, hr2, hb2⟩
    have HR2 := Aside0.mk (Kd.R_lower hr2 HB.out.size)
    have HB2 := Aside0.mk (below_step HB.out hb2)
    clear hr2 hb2
    go_wp2_with ((with_reducible refine gate_builtin (b := .append) (xs := #[.tmp 22, .tmp 25]) rfl ?_); refine halt_ ?_)
    unfold Halt_
    at_builtin
    refine Kd.R_append_zeros (Kd.int .u8) (w0 := w) w.heap.size rfl (.tmp 22) (.tmp 25) 22 3 5 (.int .u8 0) 1 rfl Try.underlying22 Try.underlying3 info5 rfl (by decide) (by omega) (.slice A2 n c2) (keyL key) 0 ((64 - n : Nat) : Int) (fun _ => True) rfl rfl rfl (fun _ _ => trivial) HR2.out (by omega) HB2.out HB2.out.size (by rw [HN.out]; omega) ?_
    intro v9 w9 ho hb hg hat
    have hwl : keyL key ++ List.replicate ((64 - n : Nat) : Int).toNat 0 = wholeL key := by rw [wholeL, HN.out, Int.toNat_natCast]
    rw [hwl] at ho
    obtain ⟨A6, c6, e6⟩ := Kd.R_slice ho
    rw [wholeL_length] at e6
    subst e6
    have h6 := Kd.R_reads' ho
    rw [wholeL_length] at h6
    have HC6 := Aside0.mk h6.2.2
    have HL6 : Aside0 (64 ≤ c6) := ⟨h6.2.1⟩
    have HB6 := Aside0.mk hb
    clear ho hb hg hat hwl h6 HR2 HB2 hsub
    go_wp2_with fail
    refine (crossed_calls A6 64 c6 (wholeL key) 54 _ HC6.out (wholeL_length key) (by omega) HL6.out).mono ?_
    rintro e w10 ⟨A10, c10, rfl, hr10, hb10⟩
    have HC10 := Aside0.mk (by have := (Kd.R_reads' hr10).2.2; rw [xorL_length, wholeL_length] at this; exact this)
    have HB10 := Aside0.mk (below_step HB6.out hb10)
    have HC61 := Aside0.mk (Kd.C_below HC6.out hb10)
    clear hr10 hb10 HC6
    go_wp2_with fail
    refine (concat_calls w10.heap.size A10 64 c10 (xorL (wholeL key) 54) Ad nd cd data _ (heap_alloc_last _ _) (Kd.C_alloc HC10.out _) (by rw [xorL_length, wholeL_length]) (Kd.C_alloc (Kd.C_below HD.out HB10.out) _) ED.out (by omega) (by omega)).mono ?_
    rintro e w11 ⟨A11, c11, rfl, hr11, hb11⟩
    have HLA : Aside0 ((xorL (wholeL key) 54 ++ data).length = 64 + nd) := ⟨by rw [List.length_append, xorL_length, wholeL_length, ED.out]⟩
    have HC11 := Aside0.mk (by have := (Kd.R_reads' hr11).2.2; rw [HLA.out] at this; exact this)
    have HB11 := Aside0.mk (below_step (below_alloc HB10.out _) hb11)
    have HC62 := Aside0.mk (Kd.C_below (Kd.C_alloc HC61.out _) hb11)
    clear hr11 hb11 HC61 HC10
    go_wp2_with fail
    refine (sha_calls A11 (64 + nd) c11 (xorL (wholeL key) 54 ++ data) _ HC11.out HLA.out (by omega)).mono ?_
    rintro e w12 ⟨v12, rfl, hr12, hb12⟩
    obtain ⟨A12, c12, e12⟩ := Kd.R_slice hr12
    rw [shaL_length] at e12
    subst e12
    have HC12 := Aside0.mk (by have := (Kd.R_reads' hr12).2.2; rw [shaL_length] at this; exact this)
    have HB12 := Aside0.mk (below_step HB11.out hb12)
    have HC63 := Aside0.mk (Kd.C_below HC62.out hb12)
    clear hr12 hb12 HC62 HC11
    go_wp2_with fail
    refine (crossed_calls A6 64 c6 (wholeL key) 92 _ HC63.out (wholeL_length key) (by omega) HL6.out).mono ?_
    rintro e w13 ⟨A13, c13, rfl, hr13, hb13⟩
    have HC13 := Aside0.mk (by have := (Kd.R_reads' hr13).2.2; rw [xorL_length, wholeL_length] at this; exact this)
    have HB13 := Aside0.mk (below_step HB12.out hb13)
    have HC121 := Aside0.mk (Kd.C_below HC12.out hb13)
    clear hr13 hb13 HC63 HC12
    go_wp2_with fail
    refine (concat_calls w13.heap.size A13 64 c13 (xorL (wholeL key) 92) A12 32 c12 (shaL (xorL (wholeL key) 54 ++ data)) _ (heap_alloc_last _ _) (Kd.C_alloc HC13.out _) (by rw [xorL_length, wholeL_length]) (Kd.C_alloc HC121.out _) (shaL_length _) (by omega) (by omega)).mono ?_
    rintro e w14 ⟨A14, c14, rfl, hr14, hb14⟩
    have HLB : Aside0 ((xorL (wholeL key) 92 ++ shaL (xorL (wholeL key) 54 ++ data)).length = 64 + 32) := ⟨by rw [List.length_append, xorL_length, wholeL_length, shaL_length]⟩
    have HC14 := Aside0.mk (by have := (Kd.R_reads' hr14).2.2; rw [HLB.out] at this; exact this)
    have HB14 := Aside0.mk (below_step (below_alloc HB13.out _) hb14)
    clear hr14 hb14
    go_wp2_with fail
    refine (sha_calls A14 (64 + 32) c14 _ _ HC14.out HLB.out (by omega)).mono ?_
    rintro e w15 ⟨v15, rfl, hr15, hb15⟩
    have HR15 := Aside0.mk (Kd.R_lower hr15 HB14.out.size)
    have HB15 := Aside0.mk (below_step HB14.out hb15)
    clear hr15 hb15
    go_wp2
    go_ret2
    exact ⟨_, rfl, HR15.out, HB15.out⟩
end Go.Proofs.Ytgfhbkhbnmgogaa.GFnExactHmac.Hand
