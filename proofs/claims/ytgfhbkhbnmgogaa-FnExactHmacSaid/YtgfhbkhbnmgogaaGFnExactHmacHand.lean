import Derived.Test.YtgfhbkhbnmgogaaGFnExactHmacHmAny
namespace Go.Proofs.Ytgfhbkhbnmgogaa.GFnExactHmac.Hand
open Go.RowKit Go.Proofs.YtgfhbkhbnmgogaaW.PrintWords Go.Proofs.YtgfhbkhbnmgogaaW.PrintLast Go.Proofs.YtgfhbkhbnmgogaaW.PrintMore
set_option linter.unusedVariables false
set_option linter.unusedSimpArgs false
/-! ### laws.FnExactHmac: function 3, its one way -/
abbrev KB : Kd Int := Kd.int .u8
theorem R_own {w : World} {base : Nat} {ok : Nat → Prop} {v : Value} {xs : List Int} (h : KB.R 5 w base ok v xs) : KB.R 5 w base (fun k => base ≤ k ∧ k < w.heap.size) v xs := Kd.R_mono (Kd.R_bound h) (fun k hk => ⟨hk.2.1, hk.2.2.1⟩)
theorem kept_R {w W : World} {S : Nat → Prop} {base lo hi : Nat} {v : Value} {xs : List Int} (h : KB.R 5 w base (fun k => lo ≤ k ∧ k < hi) v xs) (hk : Kept w W S) (hs : ∀ k, lo ≤ k → k < hi → ¬ S k) : KB.R 5 W base (fun k => lo ≤ k ∧ k < hi) v xs :=
  Kd.R_step h (fun k ho hlt => hk.2 k hlt (hs k ho.1 ho.2))
set_option maxHeartbeats 16000000 in
set_option maxRecDepth 100000 in
theorem law_in (k : Nat) (key data r mk0 mk1 mr : List Int) (A0 A1 : Option Addr) (c0 c1 : Nat) (w : World) (hr0 : KB.C w A0 key.length key) (hc0 : key.length ≤ c0) (hr1 : KB.C w A1 data.length data) (hc1 : data.length ≤ c1) (hl0 : key.length ≤ 1048576) (hl1 : data.length ≤ 1048576)
    (hres : hmRes key data = r) (h2 : laws_toByteS.f k key = some key) (h2d : laws_toByteS.f k data = some data) (h3 : laws_eqByteS.f k key key = some true) (h3d : laws_eqByteS.f k data data = some true) (hrr : laws_eqByteS.f k r r = some true)
    (hm0 : laws_markByteS.f k key 1 = some (1 + (key.length : Int), mk0)) (hm1 : laws_markByteS.f k data (1 + (key.length : Int)) = some (1 + (key.length : Int) + (data.length : Int), mk1)) (hm2 : laws_markByteS.f k r 1 = some (1 + (r.length : Int), mr)) (hml : mr.length = r.length) (hh : laws_heldByteS.f k mr 1 = some (1 + (r.length : Int))) :
    Calls Try.prog 3 #[.slice A0 key.length c0, .slice A1 data.length c1] w fun e w' => e = .returned (.bool true) ∧ Below w.heap.size w w' := by
  have HR0 := Aside0.mk hr0
  have HR1 := Aside0.mk hr1
  have H2 := Aside0.mk h2
  have H2D := Aside0.mk h2d
  have H3 := Aside0.mk h3
  have H3D := Aside0.mk h3d
  have HRR := Aside0.mk hrr
  have HM0 := Aside0.mk hm0
  have HM1 := Aside0.mk hm1
  have HM2 := Aside0.mk hm2
  have HML := Aside0.mk hml
  have HH := Aside0.mk hh
  have hlr : r.length ≤ 32 := by rw [← hres]; exact hmRes_length _ _
  have HP : Aside0 (∀ (w : World) (e : Ending) (w' : World), HmPost key data w e w' → ∃ (A : Option Addr) (c : Nat), e = .returned (.tuple #[.slice A r.length c, .bool (hmOk key data)]) ∧ KB.R 5 w' w.heap.size (fun k => w.heap.size ≤ k ∧ k < w'.heap.size) (.slice A r.length c) r ∧ Below w.heap.size w w') := ⟨by
    rintro w e w' ⟨v, rfl, hr, hb⟩
    rw [hres] at hr
    obtain ⟨A, c, rfl⟩ := Kd.R_slice hr
    exact ⟨A, c, rfl, R_own hr, hb⟩⟩
  have HTB : Aside0 (∀ (w : World) (A : Option Addr) (c : Nat) (l : List Int), KB.C w A l.length l → l.length ≤ c → laws_toByteS.f k l = some l → Calls Try.prog 9 #[.slice A l.length c] w fun e w' => ∃ (A' : Option Addr) (c' : Nat), e = .returned (.slice A' l.length c') ∧ KB.R 5 w' w.heap.size (fun k => w.heap.size ≤ k ∧ k < w'.heap.size) (.slice A' l.length c') l ∧ Below w.heap.size w w') := ⟨by
    intro w A c l hC hc hf
    refine (laws_toByteS.calls k A c l l w hC hc hf).mono ?_
    rintro e w' ⟨v, rfl, hr, hb⟩
    obtain ⟨A', c', rfl⟩ := Kd.R_slice hr
    exact ⟨A', c', rfl, R_own hr, hb⟩⟩
  obtain ⟨ok, hok⟩ : ∃ ok, hmOk key data = ok := ⟨_, rfl⟩
  rw [hok] at HP
  clear hr0 hr1 h2 h2d h3 h3d hrr hm0 hm1 hm2 hml hh hres hok
  go_enter Try.func3, Try.ntmps3
  go_wp2_with fail
  refine (HTB.out _ A0 c0 key HR0.out hc0 H2.out).mono ?_
  rintro e w1 ⟨B1, d1, rfl, hr, hb⟩
  have HB1 := Aside0.mk hb
  have HX := Aside0.mk (Kd.R_reads' hr)
  clear hr hb
  go_wp2_with fail
  refine (HTB.out _ A1 c1 data (Kd.C_below HR1.out HB1.out) hc1 H2D.out).mono ?_
  rintro e w2 ⟨B2, d2, rfl, hr, hb⟩
  have HB2 := Aside0.mk (below_step HB1.out hb)
  have HY := Aside0.mk (Kd.R_reads' hr)
  have HX2 := Aside0.mk (Kd.C_below HX.out.2.2 hb)
  clear hr hb
  go_wp2_with fail
  refine (shmac_any B1 d1 key B2 d2 data _ HX2.out HY.out.2.2).mono ?_
  rintro e w3 hp
  obtain ⟨Bv, dv, rfl, hr, hb⟩ := HP.out _ _ _ hp
  have HB3 := Aside0.mk (below_step HB2.out hb)
  have HV := Aside0.mk hr
  clear hr hb hp HX HY HX2
  go_wp2_with fail
  refine (HTB.out _ A0 c0 key (Kd.C_below HR0.out HB3.out) hc0 H2.out).mono ?_
  rintro e w4 ⟨B4, d4, rfl, hr, hb⟩
  have HB4 := Aside0.mk (below_step HB3.out hb)
  have HX4 := Aside0.mk hr
  have HV4 := Aside0.mk (Kd.R_below HV.out hb)
  have S34 : Aside0 (w3.heap.size ≤ w4.heap.size) := ⟨hb.size⟩
  clear hr hb HV
  go_wp2_with fail
  refine (HTB.out _ A1 c1 data (Kd.C_below HR1.out HB4.out) hc1 H2D.out).mono ?_
  rintro e w5 ⟨B5, d5, rfl, hr, hb⟩
  have HB5 := Aside0.mk (below_step HB4.out hb)
  have HY5 := Aside0.mk hr
  have HX5 := Aside0.mk (Kd.R_below HX4.out hb)
  have HV5 := Aside0.mk (Kd.R_below HV4.out hb)
  have S45 : Aside0 (w4.heap.size ≤ w5.heap.size) := ⟨hb.size⟩
  clear hr hb HV4 HX4
  go_wp2_with fail
  refine (hmac_any B4 d4 key B5 d5 data _ (Kd.R_reads' HX5.out).2.2 (Kd.R_reads' HY5.out).2.2).mono ?_
  rintro e w6 hp
  obtain ⟨Bg, dg, rfl, hr, hb⟩ := HP.out _ _ _ hp
  have HB6 := Aside0.mk (below_step HB5.out hb)
  have HG6 := Aside0.mk hr
  have HX6 := Aside0.mk (Kd.R_below HX5.out hb)
  have HY6 := Aside0.mk (Kd.R_below HY5.out hb)
  have HV6 := Aside0.mk (Kd.R_below HV5.out hb)
  have S56 : Aside0 (w5.heap.size ≤ w6.heap.size) := ⟨hb.size⟩
  clear hr hb hp HX5 HY5 HV5
  go_wp2_with fail
  refine (laws_eqByteS.calls k Bg dg r Bv dv r true w6 (Kd.R_reads' HG6.out).2.2 (Kd.R_reads' HG6.out).2.1 (Kd.R_reads' HV6.out).2.2 (Kd.R_reads' HV6.out).2.1 HRR.out).mono ?_
  rintro ex w7 ⟨rfl, ⟨n7, rfl⟩⟩
  have HB7 := Aside0.mk (pw_below_drewN HB6.out n7)
  have HG7 := Aside0.mk (Kd.R_drewN HG6.out n7)
  have HX7 := Aside0.mk (Kd.R_drewN HX6.out n7)
  have HY7 := Aside0.mk (Kd.R_drewN HY6.out n7)
  have HV7 := Aside0.mk (Kd.R_drewN HV6.out n7)
  have S67 : Aside0 ((w6.drewN n7).heap.size = w6.heap.size) := ⟨rfl⟩
  clear HG6 HX6 HY6 HV6
  generalize w6.drewN n7 = w7 at HB7 HG7 HX7 HY7 HV7 S67 ⊢
  go_wp2_with fail
  refine (HTB.out _ A0 c0 key (Kd.C_below HR0.out HB7.out) hc0 H2.out).mono ?_
  rintro e w8 ⟨B8, d8, rfl, hr, hb⟩
  have HB8 := Aside0.mk (below_step HB7.out hb)
  have HE8 := Aside0.mk (Kd.R_reads' hr)
  have HG8 := Aside0.mk (Kd.R_below HG7.out hb)
  have HX8 := Aside0.mk (Kd.R_below HX7.out hb)
  have HY8 := Aside0.mk (Kd.R_below HY7.out hb)
  have HV8 := Aside0.mk (Kd.R_below HV7.out hb)
  clear hr hb HG7 HX7 HY7 HV7
  go_wp2_with fail
  refine (laws_eqByteS.calls k B4 d4 key B8 d8 key true w8 (Kd.R_reads' HX8.out).2.2 (Kd.R_reads' HX8.out).2.1 HE8.out.2.2 HE8.out.2.1 H3.out).mono ?_
  rintro ex w9 ⟨rfl, ⟨n9, rfl⟩⟩
  have HB9 := Aside0.mk (pw_below_drewN HB8.out n9)
  have HG9 := Aside0.mk (Kd.R_drewN HG8.out n9)
  have HX9 := Aside0.mk (Kd.R_drewN HX8.out n9)
  have HY9 := Aside0.mk (Kd.R_drewN HY8.out n9)
  have HV9 := Aside0.mk (Kd.R_drewN HV8.out n9)
  clear HG8 HX8 HY8 HV8 HE8
  generalize w8.drewN n9 = w9 at HB9 HG9 HX9 HY9 HV9 ⊢
  go_wp2_with fail
  refine (HTB.out _ A1 c1 data (Kd.C_below HR1.out HB9.out) hc1 H2D.out).mono ?_
  rintro e w10 ⟨B10, d10, rfl, hr, hb⟩
  have HB10 := Aside0.mk (below_step HB9.out hb)
  have HE10 := Aside0.mk (Kd.R_reads' hr)
  have HG10 := Aside0.mk (Kd.R_below HG9.out hb)
  have HX10 := Aside0.mk (Kd.R_below HX9.out hb)
  have HY10 := Aside0.mk (Kd.R_below HY9.out hb)
  have HV10 := Aside0.mk (Kd.R_below HV9.out hb)
  clear hr hb HG9 HX9 HY9 HV9
  go_wp2_with fail
  refine (laws_eqByteS.calls k B5 d5 data B10 d10 data true w10 (Kd.R_reads' HY10.out).2.2 (Kd.R_reads' HY10.out).2.1 HE10.out.2.2 HE10.out.2.1 H3D.out).mono ?_
  rintro ex w11 ⟨rfl, ⟨n11, rfl⟩⟩
  have HB11 := Aside0.mk (pw_below_drewN HB10.out n11)
  have HG11 := Aside0.mk (Kd.R_drewN HG10.out n11)
  have HX11 := Aside0.mk (Kd.R_drewN HX10.out n11)
  have HY11 := Aside0.mk (Kd.R_drewN HY10.out n11)
  have HV11 := Aside0.mk (Kd.R_drewN HV10.out n11)
  clear HG10 HX10 HY10 HV10 HE10
  generalize w10.drewN n11 = w11 at HB11 HG11 HX11 HY11 HV11 ⊢
  go_wp2_with fail
  refine (laws_markByteS.calls k (fun j => w3.heap.size ≤ j ∧ j < w4.heap.size) (.slice B4 key.length d4) key 1 _ mk0 w w11 HB11.out (Kd.R_lower HX11.out HB3.out.size) HM0.out).mono ?_
  rintro ex w12 ⟨rfl, _, hb, hkp⟩
  have HB12 := Aside0.mk hb
  have HG12 := Aside0.mk (kept_R HG11.out hkp (fun j h1 h2 h3 => by have := S45.out; omega))
  have HY12 := Aside0.mk (kept_R HY11.out hkp (fun j h1 h2 h3 => by omega))
  have HV12 := Aside0.mk (kept_R HV11.out hkp (fun j h1 h2 h3 => by omega))
  clear hb hkp HG11 HX11 HY11 HV11
  go_wp2_with fail
  refine (laws_markByteS.calls k (fun j => w4.heap.size ≤ j ∧ j < w5.heap.size) (.slice B5 data.length d5) data (1 + (key.length : Int)) _ mk1 w w12 HB12.out (Kd.R_lower HY12.out HB4.out.size) HM1.out).mono ?_
  rintro ex w13 ⟨rfl, _, hb, hkp⟩
  have HB13 := Aside0.mk hb
  have HG13 := Aside0.mk (kept_R HG12.out hkp (fun j h1 h2 h3 => by omega))
  have HV13 := Aside0.mk (kept_R HV12.out hkp (fun j h1 h2 h3 => by have := S34.out; omega))
  clear hb hkp HG12 HY12 HV12
  have hk0 : decide ((1 : Int) + (key.length : Int) + (data.length : Int) < 0) = false := decide_eq_false (by omega)
  go_wp2_with fail
  refine (laws_eqByteS.calls k Bg dg r Bv dv r true w13 (Kd.R_reads' HG13.out).2.2 (Kd.R_reads' HG13.out).2.1 (Kd.R_reads' HV13.out).2.2 (Kd.R_reads' HV13.out).2.1 HRR.out).mono ?_
  rintro ex w14 ⟨rfl, ⟨n14, rfl⟩⟩
  have HB14 := Aside0.mk (pw_below_drewN HB13.out n14)
  have HG14 := Aside0.mk (Kd.R_drewN HG13.out n14)
  have HV14 := Aside0.mk (Kd.R_drewN HV13.out n14)
  clear HG13 HV13 hk0
  generalize w13.drewN n14 = w14 at HB14 HG14 HV14 ⊢
  go_wp2_with fail
  refine (laws_markByteS.calls k (fun j => w5.heap.size ≤ j ∧ j < w6.heap.size) (.slice Bg r.length dg) r 1 _ mr w w14 HB14.out (Kd.R_lower HG14.out HB5.out.size) HM2.out).mono ?_
  rintro ex w15 ⟨rfl, hr, hb, hkp⟩
  have HB15 := Aside0.mk hb
  have HG15 := Aside0.mk hr
  have HV15 := Aside0.mk (kept_R HV14.out hkp (fun j h1 h2 h3 => by have := S34.out; have := S45.out; omega))
  clear hr hb hkp HG14 HV14
  have HHE : Aside0 (∀ w : World, KB.C w Bg r.length mr → r.length ≤ dg → Calls Try.prog 13 #[.slice Bg r.length dg, .int .i64 1] w fun e w' => e = .returned (.int .i64 (1 + (r.length : Int))) ∧ Drawn0 w w') := ⟨by
    intro w hC hd
    have := laws_heldByteS.calls k Bg dg mr 1 (1 + (r.length : Int)) w (by rw [HML.out]; exact hC) (by rw [HML.out]; exact hd) HH.out
    rw [HML.out] at this
    exact this⟩
  have HCC : Aside0 (KB.C w15 Bg r.length mr ∧ r.length ≤ dg) := ⟨by
    have h := Kd.R_reads' HG15.out
    rw [HML.out] at h
    exact ⟨h.2.2, h.2.1⟩⟩
  clear HG15
  go_wp2_with fail
  refine (HHE.out _ HCC.out.1 HCC.out.2).mono ?_
  rintro ex w16 ⟨rfl, ⟨n16, rfl⟩⟩
  have HB16 := Aside0.mk (pw_below_drewN HB15.out n16)
  have HC16 : Aside0 (KB.C (w15.drewN n16) Bg r.length mr) := ⟨Kd.C_drewN HCC.out.1 n16⟩
  have HV16 := Aside0.mk (Kd.R_drewN HV15.out n16)
  have HD := Aside0.mk HCC.out.2
  clear HCC HV15
  generalize w15.drewN n16 = w16 at HB16 HC16 HV16 ⊢
  have hq0 : decide ((1 : Int) + (r.length : Int) < 0) = false := decide_eq_false (by omega)
  go_wp2_with fail
  refine (HTB.out _ A0 c0 key (Kd.C_below HR0.out HB16.out) hc0 H2.out).mono ?_
  rintro e w17 ⟨B17, d17, rfl, hr, hb⟩
  have HB17 := Aside0.mk (below_step HB16.out hb)
  have HX17 := Aside0.mk (Kd.R_reads' hr)
  have HC17 := Aside0.mk (Kd.C_below HC16.out hb)
  have HV17 := Aside0.mk (Kd.R_below HV16.out hb)
  clear hr hb HC16 HV16
  go_wp2_with fail
  refine (HTB.out _ A1 c1 data (Kd.C_below HR1.out HB17.out) hc1 H2D.out).mono ?_
  rintro e w18 ⟨B18, d18, rfl, hr, hb⟩
  have HB18 := Aside0.mk (below_step HB17.out hb)
  have HY18 := Aside0.mk (Kd.R_reads' hr)
  have HX18 := Aside0.mk (Kd.C_below HX17.out.2.2 hb)
  have HC18 := Aside0.mk (Kd.C_below HC17.out hb)
  have HV18 := Aside0.mk (Kd.R_below HV17.out hb)
  clear hr hb HC17 HV17
  go_wp2_with fail
  refine (hmac_any B17 d17 key B18 d18 data _ HX18.out HY18.out.2.2).mono ?_
  rintro e w19 hp
  obtain ⟨Bh, dh, rfl, hr, hb⟩ := HP.out _ _ _ hp
  have HB19 := Aside0.mk (below_step HB18.out hb)
  have HE19 := Aside0.mk (Kd.R_reads' hr)
  have HC19 := Aside0.mk (Kd.C_below HC18.out hb)
  have HV19 := Aside0.mk (Kd.R_below HV18.out hb)
  clear hr hb hp HC18 HV18 HX18 HY18
  go_wp2_with fail
  refine (laws_eqByteS.calls k Bh dh r Bv dv r true w19 HE19.out.2.2 HE19.out.2.1 (Kd.R_reads' HV19.out).2.2 (Kd.R_reads' HV19.out).2.1 HRR.out).mono ?_
  rintro ex w20 ⟨rfl, ⟨n20, rfl⟩⟩
  have HB20 := Aside0.mk (pw_below_drewN HB19.out n20)
  have HC20 : Aside0 (KB.C (w19.drewN n20) Bg r.length mr) := ⟨Kd.C_drewN HC19.out n20⟩
  clear HC19 HV19 HE19
  generalize w19.drewN n20 = w20 at HB20 HC20 ⊢
  go_wp2_with fail
  refine (HHE.out _ HC20.out HD.out).mono ?_
  rintro ex w21 ⟨rfl, ⟨n21, rfl⟩⟩
  go_wp2
  go_ret
  exact ⟨rfl, pw_below_drewN HB20.out n21⟩
set_option maxHeartbeats 8000000 in
set_option maxRecDepth 100000 in
theorem law_big (n0 n1 : Nat) (A0 A1 : Option Addr) (c0 c1 : Nat) (w : World) (hl : n0 > 1048576 ∨ n1 > 1048576) (hm0 : n0 ≤ maxLen) (hm1 : n1 ≤ maxLen) :
    Calls Try.prog 3 #[.slice A0 n0 c0, .slice A1 n1 c1] w fun e w' => e = .returned (.bool true) ∧ Below w.heap.size w w' := by
  by_cases h : n0 > 1048576
  · clear hl
    go_enter Try.func3, Try.ntmps3
    go_wp2
    go_ret
    exact ⟨rfl, Below.refl _ _⟩
  · have h1 : n1 > 1048576 := by omega
    clear hl
    go_enter Try.func3, Try.ntmps3
    go_wp2
    go_ret
    exact ⟨rfl, Below.refl _ _⟩
/-- What is asked of the arguments; the law then says 'true'. -/
def LawOk (k : Nat) (key data : List Int) (res : Bool) : Prop := res = true ∧ key.length ≤ maxLen ∧ data.length ≤ maxLen ∧ ((key.length > 1048576 ∨ data.length > 1048576) ∨ (key.length ≤ 1048576 ∧ data.length ≤ 1048576 ∧ ∃ (r mk0 mk1 mr : List Int), hmRes key data = r ∧ laws_toByteS.f k key = some key ∧ laws_toByteS.f k data = some data ∧ laws_eqByteS.f k key key = some true ∧ laws_eqByteS.f k data data = some true ∧ laws_eqByteS.f k r r = some true ∧
    laws_markByteS.f k key 1 = some (1 + (key.length : Int), mk0) ∧ laws_markByteS.f k data (1 + (key.length : Int)) = some (1 + (key.length : Int) + (data.length : Int), mk1) ∧ laws_markByteS.f k r 1 = some (1 + (r.length : Int), mr) ∧ mr.length = r.length ∧ laws_heldByteS.f k mr 1 = some (1 + (r.length : Int))))
end Go.Proofs.Ytgfhbkhbnmgogaa.GFnExactHmac.Hand
namespace Go.Proofs.Ytgfhbkhbnmgogaa.GFnExactHmac
open Go.RowKit Go.Proofs.YtgfhbkhbnmgogaaW.PrintWords
theorem laws_FnExactHmac.calls (k : Nat) (A0 : Option Addr) (c0 : Nat) (l0 : List Int) (A1 : Option Addr) (c1 : Nat) (l1 : List Int) (r : Bool) (w : World) (hr0 : Kd.C (Kd.int .u8) w A0 l0.length l0) (hc0 : l0.length ≤ c0) (hr1 : Kd.C (Kd.int .u8) w A1 l1.length l1) (hc1 : l1.length ≤ c1) (h : Hand.LawOk k l0 l1 r) :
    Calls Try.prog 3 #[.slice A0 l0.length c0, .slice A1 l1.length c1] w fun e w' => e = .returned (.bool r) ∧ Below w.heap.size w w' := by
  obtain ⟨rfl, hm0, hm1, h | ⟨hl0, hl1, r, mk0, mk1, mr, h1, h2, h3, h4, h5, h6, h7, h8, h9, h10, h11⟩⟩ := h
  · exact Hand.law_big _ _ A0 A1 c0 c1 w h hm0 hm1
  · exact Hand.law_in k l0 l1 r mk0 mk1 mr A0 A1 c0 c1 w hr0 hc0 hr1 hc1 hl0 hl1 h1 h2 h3 h4 h5 h6 h7 h8 h9 h10 h11
def laws_FnExactHmac.Pure : Prop := ∀ (l0 l1 : List Int), l0.length ≤ maxLen → l0.length * 1 ≤ 140737488351232 → (∀ x ∈ l0, (Lit.int .u8 x).wf = true) → l1.length ≤ maxLen → l1.length * 1 ≤ 140737488351232 → (∀ x ∈ l1, (Lit.int .u8 x).wf = true) → ∃ k, Hand.LawOk k l0 l1 true
theorem laws_FnExactHmac.walk (P : laws_FnExactHmac.Pure) (a0 : Option Addr) (len0 cap0 : Nat) (z0 : List Int) (a1 : Option Addr) (len1 cap1 : Nat) (z1 : List Int) (w : World) (w0 : (a0 = none ∧ len0 = 0 ∧ cap0 = 0 ∧ z0 = []) ∨ ∃ x, a0 = some x ∧ len0 ≤ cap0 ∧ cap0 ≤ maxLen ∧ z0.length = cap0 ∧ (∀ i, i < z0.length → w.cell? (x.add i) = some (.int .u8 (z0.getD i 0))) ∧ ∀ n ∈ z0, (Lit.int .u8 n).wf = true) (w1 : (a1 = none ∧ len1 = 0 ∧ cap1 = 0 ∧ z1 = []) ∨ ∃ x, a1 = some x ∧ len1 ≤ cap1 ∧ cap1 ≤ maxLen ∧ z1.length = cap1 ∧ (∀ i, i < z1.length → w.cell? (x.add i) = some (.int .u8 (z1.getD i 0))) ∧ ∀ n ∈ z1, (Lit.int .u8 n).wf = true) (y0 : len0 * 1 ≤ 140737488351232) (y1 : len1 * 1 ≤ 140737488351232) :
    Calls Try.prog 3 #[.slice a0 len0 cap0, .slice a1 len1 cap1] w fun e w' => e = .returned (.bool true) ∧ Below w.heap.size w w' := by
  obtain ⟨l0, rfl, hr0, hm0, hw0, hc0⟩ := ReadsInt.ofRowC w0
  obtain ⟨l1, rfl, hr1, hm1, hw1, hc1⟩ := ReadsInt.ofRowC w1
  obtain ⟨k, h⟩ := P l0 l1 hm0 y0 hw0 hm1 y1 hw1
  exact laws_FnExactHmac.calls k _ _ l0 _ _ l1 true w (Kd.C_of_reads (d := (0 : Int)) (h1 := fun _ => rfl) hr0) hc0 (Kd.C_of_reads (d := (0 : Int)) (h1 := fun _ => rfl) hr1) hc1 h
end Go.Proofs.Ytgfhbkhbnmgogaa.GFnExactHmac
