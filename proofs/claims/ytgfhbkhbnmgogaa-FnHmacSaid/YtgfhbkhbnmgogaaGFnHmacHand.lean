import Derived.Test.YtgfhbkhbnmgogaaGFnHmacHmAny
namespace Go.Proofs.Ytgfhbkhbnmgogaa.GFnHmac.Hand
open Go.RowKit Go.Proofs.YtgfhbkhbnmgogaaW.PrintWords Go.Proofs.YtgfhbkhbnmgogaaW.PrintLast Go.Proofs.YtgfhbkhbnmgogaaW.PrintMore
set_option linter.unusedVariables false
set_option linter.unusedSimpArgs false
/-! ### laws.FnHmac: function 6 -/
theorem keyL_sha (key : List Int) : keyL (shaL key) = shaL key := by rw [keyL, if_neg (by rw [shaL_length]; omega)]
theorem hmac_sha (key data : List Int) (h : 64 < key.length) : hmacL (shaL key) data = hmacL key data := by
  have e : wholeL (shaL key) = wholeL key := by
    rw [wholeL, wholeL, keyL_sha, show keyL key = shaL key by rw [keyL, if_pos h]]
  rw [hmacL, hmacL, e]
theorem hmac_pad (key data : List Int) (h : key.length ≤ 64) : hmacL (key ++ List.replicate (64 - key.length) 0) data = hmacL key data := by
  have hl : (key ++ List.replicate (64 - key.length) (0 : Int)).length = 64 := by simp; omega
  have e : wholeL (key ++ List.replicate (64 - key.length) 0) = wholeL key := by
    have e1 : keyL (key ++ List.replicate (64 - key.length) 0) = key ++ List.replicate (64 - key.length) 0 := by rw [keyL, if_neg (by rw [hl]; omega)]
    have e2 : keyL key = key := by rw [keyL, if_neg (by omega)]
    rw [wholeL, wholeL, e1, hl, e2]
    simp
  rw [hmacL, hmacL, e]
theorem hm_yes {key data : List Int} (h : key.length ≤ 10000 ∧ data.length ≤ 10000) : hmOk key data = true ∧ hmRes key data = hmacL key data := ⟨by rw [hmOk, decide_eq_true h], by rw [hmRes, if_pos h]⟩
theorem hm_no {key data : List Int} (h : ¬ (key.length ≤ 10000 ∧ data.length ≤ 10000)) : hmOk key data = false ∧ hmRes key data = [] := ⟨by rw [hmOk, decide_eq_false h], by rw [hmRes, if_neg h]⟩
set_option maxHeartbeats 8000000 in
set_option maxRecDepth 100000 in
theorem isha_calls (A : Option Addr) (n c : Nat) (xs : List Int) (w : World) (hC : (Kd.int .u8).C w A n xs) (hn : xs.length = n) (hl : n ≤ 20000) :
    Calls Try.prog 25 #[.slice A n c] w fun e w' => ∃ v, e = .returned v ∧ (Kd.int .u8).R 5 w' w.heap.size (fun _ => True) v (shaL xs) ∧ Below w.heap.size w w' := by
  have HS := Aside0.mk (sha_calls A n c xs w hC hn hl)
  have hgt : decide ((20000 : Int) < (n : Int)) = false := decide_eq_false (by omega)
  clear hC hn
  go_enter Try.func25, Try.ntmps25
  go_wp2_with fail
  refine HS.out.mono ?_
  rintro e w1 ⟨v, rfl, hr, hb⟩
  have HR := Aside0.mk hr
  have HB := Aside0.mk hb
  clear hr hb
  go_wp2
  go_ret
  exact ⟨_, rfl, HR.out, HB.out⟩
set_option maxHeartbeats 16000000 in
set_option maxRecDepth 100000 in
theorem law_in (k : Nat) (b key data : List Int) (A0 : Option Addr) (c0 : Nat) (w : World) (hr0 : Kd.C (Kd.int .u8) w A0 b.length b) (hc0 : b.length ≤ c0) (hl : b.length ≤ 1048576)
    (hd : spec_DrawHmac.f k b = some (key, data)) (hk1 : key.length ≤ 20000) (hd1 : data.length ≤ 10000) :
    Calls Try.prog 6 #[.slice A0 b.length c0] w fun e w' => e = .returned (.bool true) ∧ Below w.heap.size w w' := by
  have HR0 := Aside0.mk hr0
  have HDR := Aside0.mk hd
  have HBIG : Aside0 (laws_big.f b = some false) := ⟨by unfold laws_big.f; rw [decide_eq_false (by omega)]⟩
  clear hr0 hd
  go_enter Try.func6, Try.ntmps6
  go_wp2_with fail
  refine (laws_big.calls A0 c0 b false w HR0.out hc0 HBIG.out).mono ?_
  rintro ex w1 ⟨rfl, ⟨nd, rfl⟩⟩
  go_wp2_with fail
  refine (spec_DrawHmac.calls k A0 c0 b key data (w.drewN nd) (Kd.C_drewN HR0.out nd) hc0 HDR.out).mono ?_
  rintro ex w2 ⟨v0, v1, rfl, hr1, hr2, hb⟩
  obtain ⟨Ak, ck, rfl⟩ := Kd.R_slice hr1
  obtain ⟨Ad, cd, rfl⟩ := Kd.R_slice hr2
  have HB2 : Aside0 (Below w.heap.size w w2) := ⟨below_step (pw_below_drewN (Below.refl _ _) nd) hb⟩
  have HK := Aside0.mk (Kd.R_reads' hr1).2.2
  have HD := Aside0.mk (Kd.R_reads' hr2).2.2
  clear hr1 hr2 hb
  go_wp2_with fail
  refine (hmac_any Ak ck key Ad cd data w2 HK.out HD.out).mono ?_
  rintro ex w3 ⟨v, rfl, hr, hb⟩
  obtain ⟨Aa, ca, rfl⟩ := Kd.R_slice hr
  have HB3 := Aside0.mk (below_step HB2.out hb)
  have HA3 := Aside0.mk (Kd.R_reads' hr).2.2
  have HK3 := Aside0.mk (Kd.C_below HK.out hb)
  have HD3 := Aside0.mk (Kd.C_below HD.out hb)
  clear hr hb HK HD
  go_wp2_with fail
  refine (shmac_any Ak ck key Ad cd data w3 HK3.out HD3.out).mono ?_
  rintro ex w4 ⟨v, rfl, _, hb⟩
  have HB4 := Aside0.mk (below_step HB3.out hb)
  have HA4 := Aside0.mk (Kd.C_below HA3.out hb)
  have HK4 := Aside0.mk (Kd.C_below HK3.out hb)
  have HD4 := Aside0.mk (Kd.C_below HD3.out hb)
  clear hb HA3 HK3 HD3
  by_cases hok : key.length ≤ 10000 ∧ data.length ≤ 10000
  · obtain ⟨e1, e2⟩ := hm_yes hok
    rw [e1]
    rw [e2] at HA4 ⊢
    obtain ⟨R, hR⟩ : ∃ R, hmacL key data = R := ⟨_, rfl⟩
    have HRE := Aside0.mk hR
    have HRL : Aside0 (R.length = 32) := ⟨by rw [← hR, hmacL, shaL_length]⟩
    rw [hR] at HA4 ⊢
    have hs1 : ((strOfNums R).toList == (strOfNums R).toList) = true := beq_self_eq_true _
    clear e1 e2 hR
    by_cases h64 : 64 < key.length
    · have c3 : decide ((64 : Int) < (key.length : Int)) = true := decide_eq_true (by omega)
      go_wp2_with fail
      refine (isha_calls Ak key.length ck key w4 HK4.out rfl hk1).mono ?_
      rintro ex w5 ⟨v, rfl, hr, hb⟩
      obtain ⟨As, cs, rfl⟩ := Kd.R_slice hr
      have HB5 := Aside0.mk (below_step HB4.out hb)
      have HS5 := Aside0.mk (Kd.R_reads' hr).2.2
      have HA5 := Aside0.mk (Kd.C_below HA4.out hb)
      have HD5 := Aside0.mk (Kd.C_below HD4.out hb)
      clear hr hb
      go_wp2_with fail
      refine (hmac_any As cs (shaL key) Ad cd data w5 HS5.out HD5.out).mono ?_
      rintro ex w6 ⟨v, rfl, hr, hb⟩
      obtain ⟨f1, f2⟩ := hm_yes (key := shaL key) (data := data) ⟨by rw [shaL_length]; omega, hok.2⟩
      rw [f1]
      rw [f2, hmac_sha key data h64, HRE.out] at hr
      obtain ⟨Ab, cb, rfl⟩ := Kd.R_slice hr
      have HB6 := Aside0.mk (below_step HB5.out hb)
      have hcv0 := Kd.C_string (P := Try.prog) (A := Aa) (c := ca) Try.underlying22 Try.underlying5 Try.underlying9 (Kd.C_below HA5.out hb)
      have hcv1 := Kd.C_string (P := Try.prog) (A := Ab) (c := cb) Try.underlying22 Try.underlying5 Try.underlying9 (Kd.R_reads' hr).2.2
      clear hr hb f1 f2
      go_wp2
      go_ret
      exact ⟨by first | rfl | simp, HB6.out⟩
    · have c3 : decide ((64 : Int) < (key.length : Int)) = false := decide_eq_false (by omega)
      have hsub : IntKind.i64.wrap (64 - (key.length : Int)) = ((64 - key.length : Nat) : Int) := (i64_w _).trans (by rw [Base.w64] <;> omega)
      go_wp2_with ((with_reducible refine gate_builtin (b := .append) (xs := #[.tmp 63, .tmp 64]) rfl ?_); refine halt_ ?_)
      unfold Halt_
      at_builtin
      refine Kd.R_append_rows (Kd.int .u8) (w0 := w4) w4.heap.size rfl (.tmp 63) (.tmp 64) 22 5 (.int .u8 0) 1 rfl Try.underlying22 info5 rfl (by decide) (by omega) (.slice (some ⟨w4.heap.size, 0, none⟩) 0 0) [] key Ak key.length ck (fun _ => True) (fun _ => False) rfl rfl (u8lit (base := w4.heap.size) w4 [] (by decide) (Nat.le_refl _)) (Kd.C_alloc HK4.out _) (fun _ _ h => h) (fun _ h => h.elim) (fun _ _ => trivial) (below_alloc (Below.refl w4.heap.size w4) _) (below_alloc (Below.refl w4.heap.size w4) _).size (by simp; omega) ?_
      intro v5 w5 ho hb hg hat
      rw [List.nil_append] at ho
      obtain ⟨A5, c5, rfl⟩ := Kd.R_slice ho
      have HO5 := Aside0.mk ho
      have HB5 := Aside0.mk hb
      clear ho hb hg hat
      go_wp2_with ((with_reducible refine gate_builtin (b := .append) (xs := #[.tmp 65, .tmp 68]) rfl ?_); refine halt_ ?_)
      unfold Halt_
      at_builtin
      refine Kd.R_append_zeros (Kd.int .u8) (w0 := w4) w4.heap.size rfl (.tmp 65) (.tmp 68) 22 3 5 (.int .u8 0) 1 rfl Try.underlying22 Try.underlying3 info5 rfl (by decide) (by omega) (.slice A5 key.length c5) key 0 ((64 - key.length : Nat) : Int) (fun _ => True) rfl rfl rfl (fun _ _ => trivial) HO5.out (by omega) HB5.out HB5.out.size (by omega) ?_
      intro v6 w6 ho hb hg hat
      rw [Int.toNat_natCast] at ho
      obtain ⟨kp, hkp⟩ : ∃ kp, key ++ List.replicate (64 - key.length) (0 : Int) = kp := ⟨_, rfl⟩
      have HKP := Aside0.mk hkp
      rw [hkp] at ho
      obtain ⟨A6, c6, rfl⟩ := Kd.R_slice ho
      have HC6 := Aside0.mk (Kd.R_reads' ho).2.2
      have HB6 := Aside0.mk (below_step HB4.out hb)
      have HA6 := Aside0.mk (Kd.C_below HA4.out hb)
      have HD6 := Aside0.mk (Kd.C_below HD4.out hb)
      have HPL : Aside0 (kp.length = 64) := ⟨by rw [← hkp]; simp; omega⟩
      clear ho hb hg hat hsub hkp
      go_wp2_with fail
      refine (hmac_any A6 c6 kp Ad cd data w6 HC6.out HD6.out).mono ?_
      rintro ex w7 ⟨v, rfl, hr, hb⟩
      obtain ⟨f1, f2⟩ := hm_yes (key := kp) (data := data) ⟨by rw [HPL.out]; omega, hok.2⟩
      rw [f1]
      rw [f2, ← HKP.out, hmac_pad key data (by omega), HRE.out] at hr
      obtain ⟨Ab, cb, rfl⟩ := Kd.R_slice hr
      have HB7 := Aside0.mk (below_step HB6.out hb)
      have hcv0 := Kd.C_string (P := Try.prog) (A := Aa) (c := ca) Try.underlying22 Try.underlying5 Try.underlying9 (Kd.C_below HA6.out hb)
      have hcv1 := Kd.C_string (P := Try.prog) (A := Ab) (c := cb) Try.underlying22 Try.underlying5 Try.underlying9 (Kd.R_reads' hr).2.2
      have h32 : ((R.length : Int) == 32) = true := by rw [HRL.out]; rfl
      clear hr hb f1 f2
      go_wp2
      go_ret
      exact ⟨by first | rfl | simp, HB7.out⟩
  · obtain ⟨e1, e2⟩ := hm_no hok
    rw [e1, e2]
    go_wp2
    go_ret
    exact ⟨by first | rfl | simp, HB4.out⟩
set_option maxHeartbeats 8000000 in
set_option maxRecDepth 100000 in
theorem law_big (b : List Int) (A0 : Option Addr) (c0 : Nat) (w : World) (hr0 : Kd.C (Kd.int .u8) w A0 b.length b) (hc0 : b.length ≤ c0) (hl : b.length > 1048576) :
    Calls Try.prog 6 #[.slice A0 b.length c0] w fun e w' => e = .returned (.bool true) ∧ Below w.heap.size w w' := by
  have HR0 := Aside0.mk hr0
  have HBIG : Aside0 (laws_big.f b = some true) := ⟨by unfold laws_big.f; rw [decide_eq_true (by omega)]⟩
  clear hr0
  go_enter Try.func6, Try.ntmps6
  go_wp2_with fail
  refine (laws_big.calls A0 c0 b true w HR0.out hc0 HBIG.out).mono ?_
  rintro ex w1 ⟨rfl, ⟨nd, rfl⟩⟩
  go_wp2
  go_ret
  exact ⟨rfl, pw_below_drewN (Below.refl _ _) nd⟩
/-- What is asked of an argument; the law then says 'true'. -/
def LawOk (k : Nat) (b : List Int) (res : Bool) : Prop := res = true ∧ (b.length > 1048576 ∨ (b.length ≤ 1048576 ∧ ∃ key data, spec_DrawHmac.f k b = some (key, data) ∧ key.length ≤ 20000 ∧ data.length ≤ 10000))
end Go.Proofs.Ytgfhbkhbnmgogaa.GFnHmac.Hand
namespace Go.Proofs.Ytgfhbkhbnmgogaa.GFnHmac
open Go.RowKit Go.Proofs.YtgfhbkhbnmgogaaW.PrintWords
theorem laws_FnHmac.calls (k : Nat) (A0 : Option Addr) (c0 : Nat) (l0 : List Int) (r : Bool) (w : World) (hr0 : Kd.C (Kd.int .u8) w A0 l0.length l0) (hc0 : l0.length ≤ c0) (h : Hand.LawOk k l0 r) :
    Calls Try.prog 6 #[.slice A0 l0.length c0] w fun e w' => e = .returned (.bool r) ∧ Below w.heap.size w w' := by
  obtain ⟨rfl, h | ⟨hl, key, data, h1, h2, h3⟩⟩ := h
  · exact Hand.law_big l0 A0 c0 w hr0 hc0 h
  · exact Hand.law_in k l0 key data A0 c0 w hr0 hc0 hl h1 h2 h3
def laws_FnHmac.Pure : Prop := ∀ (l0 : List Int), l0.length ≤ maxLen → l0.length * 1 ≤ 140737488351232 → (∀ x ∈ l0, (Lit.int .u8 x).wf = true) → ∃ k, Hand.LawOk k l0 true
theorem laws_FnHmac.walk (P : laws_FnHmac.Pure) (a0 : Option Addr) (len0 cap0 : Nat) (z0 : List Int) (w : World) (w0 : (a0 = none ∧ len0 = 0 ∧ cap0 = 0 ∧ z0 = []) ∨ ∃ x, a0 = some x ∧ len0 ≤ cap0 ∧ cap0 ≤ maxLen ∧ z0.length = cap0 ∧ (∀ i, i < z0.length → w.cell? (x.add i) = some (.int .u8 (z0.getD i 0))) ∧ ∀ n ∈ z0, (Lit.int .u8 n).wf = true) (y0 : len0 * 1 ≤ 140737488351232) :
    Calls Try.prog 6 #[.slice a0 len0 cap0] w fun e w' => e = .returned (.bool true) ∧ Below w.heap.size w w' := by
  obtain ⟨l0, rfl, hr0, hm0, hw0, hc0⟩ := ReadsInt.ofRowC w0
  obtain ⟨k, h⟩ := P l0 hm0 y0 hw0
  exact laws_FnHmac.calls k _ _ l0 true w (Kd.C_of_reads (d := (0 : Int)) (h1 := fun _ => rfl) hr0) hc0 h
end Go.Proofs.Ytgfhbkhbnmgogaa.GFnHmac
