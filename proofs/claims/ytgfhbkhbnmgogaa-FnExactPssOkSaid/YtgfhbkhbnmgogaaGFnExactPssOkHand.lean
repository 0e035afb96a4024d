import Derived.Test.YtgfhbkhbnmgogaaGFnExactPssOkSPss
namespace Go.Proofs.Ytgfhbkhbnmgogaa.GFnExactPssOk.Hand
open Go.RowKit Go.Proofs.YtgfhbkhbnmgogaaW.PrintWords Go.Proofs.YtgfhbkhbnmgogaaW.PrintLast Go.Proofs.YtgfhbkhbnmgogaaW.PrintMore Go.Proofs.Ytgfhbkhbnmgogaa.GFnExactHmac.Hand
set_option linter.unusedVariables false
set_option linter.unusedSimpArgs false
/-! ### laws.FnExactPssOk (7), along its one way -/
abbrev KB : Kd Int := Kd.int .u8
set_option maxHeartbeats 16000000 in
set_option maxRecDepth 100000 in
theorem law_in (k : Nat) (l0 l1 : List Int) (b : Int) (A0 A1 : Option Addr) (c0 c1 : Nat) (w : World) (hr0 : KB.C w A0 l0.length l0) (hc0 : l0.length ≤ c0) (hr1 : KB.C w A1 l1.length l1) (hc1 : l1.length ≤ c1) (hl0 : l0.length ≤ 1048576) (hl1 : l1.length ≤ 1048576) (hb : -9223372036854775808 ≤ b ∧ b < 9223372036854775808) (hby : ∀ i, 0 ≤ rd l0 i ∧ rd l0 i < 256)
    (h2 : laws_toByteS.f k l0 = some l0) (h2d : laws_toByteS.f k l1 = some l1) (h3 : laws_eqByteS.f k l0 l0 = some true) (h3d : laws_eqByteS.f k l1 l1 = some true) :
    Calls Try.prog 7 #[.slice A0 l0.length c0, .int .i64 b, .slice A1 l1.length c1] w fun e w' => e = .returned (.bool true) ∧ Below w.heap.size w w' := by
  have HR0 := Aside0.mk hr0
  have HR1 := Aside0.mk hr1
  have H2 := Aside0.mk h2
  have H2D := Aside0.mk h2d
  have H3 := Aside0.mk h3
  have H3D := Aside0.mk h3d
  have HTB : Aside0 (∀ (w : World) (A : Option Addr) (c : Nat) (l : List Int), KB.C w A l.length l → l.length ≤ c → laws_toByteS.f k l = some l → Calls Try.prog 9 #[.slice A l.length c] w fun e w' => ∃ (A' : Option Addr) (c' : Nat), e = .returned (.slice A' l.length c') ∧ Aside0 (KB.C w' A' l.length l) ∧ l.length ≤ c' ∧ Below w.heap.size w w') := ⟨by
    intro w A c l hC hc hf
    refine (laws_toByteS.calls k A c l l w hC hc hf).mono ?_
    rintro e w' ⟨v, rfl, hr, hb⟩
    obtain ⟨A', c', rfl⟩ := Kd.R_slice hr
    have h := Kd.R_reads' hr
    exact ⟨A', c', rfl, ⟨h.2.2⟩, h.2.1, hb⟩⟩
  obtain ⟨rb, hrb⟩ : ∃ r, pssL l0 b l1 = r := ⟨_, rfl⟩
  have HSP : Aside0 (∀ (w : World) (A A' : Option Addr) (c c' : Nat), KB.C w A l0.length l0 → l0.length ≤ c → KB.C w A' l1.length l1 → l1.length ≤ c' → Calls Try.prog 26 #[.slice A l0.length c, .int .i64 b, .slice A' l1.length c'] w fun e w' => e = .returned (.bool rb) ∧ Below w.heap.size w w') := ⟨fun w A A' c c' h1 h2 h3 h4 => by rw [← hrb]; exact spss_calls A l0.length c l0 b A' l1.length c' l1 w h1 rfl h2 h3 rfl h4 hl0 hl1 hb hby⟩
  have HIP : Aside0 (∀ (w : World) (A A' : Option Addr) (c c' : Nat), KB.C w A l0.length l0 → l0.length ≤ c → KB.C w A' l1.length l1 → l1.length ≤ c' → Calls Try.prog 27 #[.slice A l0.length c, .int .i64 b, .slice A' l1.length c'] w fun e w' => e = .returned (.bool rb) ∧ Below w.heap.size w w') := ⟨fun w A A' c c' h1 h2 h3 h4 => by rw [← hrb]; exact pss_calls A l0.length c l0 b A' l1.length c' l1 w h1 rfl h2 h3 rfl h4 hl0 hl1 hb hby⟩
  have hbb : (rb != rb) = false := by simp
  clear hr0 hr1 h2 h2d h3 h3d hrb
  go_enter Try.func7, Try.ntmps7
  go_wp2_with fail
  refine (HTB.out _ A0 c0 l0 HR0.out hc0 H2.out).mono ?_
  rintro e w1 ⟨B1, d1, rfl, HX1, hd1, hb⟩
  have HB1 := Aside0.mk hb
  clear hb
  go_wp2_with fail
  refine (HTB.out _ A1 c1 l1 (Kd.C_below HR1.out HB1.out) hc1 H2D.out).mono ?_
  rintro e w2 ⟨B2, d2, rfl, HY2, hd2, hb⟩
  have HX2 := Aside0.mk (Kd.C_below HX1.out hb)
  have HB2 := Aside0.mk (below_step HB1.out hb)
  clear hb HX1
  go_wp2_with fail
  refine (HSP.out _ B1 B2 d1 d2 HX2.out hd1 HY2.out hd2).mono ?_
  rintro e w3 ⟨rfl, hb⟩
  have HB3 := Aside0.mk (below_step HB2.out hb)
  clear hb HX2 HY2
  go_wp2_with fail
  refine (HTB.out _ A0 c0 l0 (Kd.C_below HR0.out HB3.out) hc0 H2.out).mono ?_
  rintro e w4 ⟨B4, d4, rfl, HX4, hd4, hb⟩
  have HB4 := Aside0.mk (below_step HB3.out hb)
  clear hb
  go_wp2_with fail
  refine (HTB.out _ A1 c1 l1 (Kd.C_below HR1.out HB4.out) hc1 H2D.out).mono ?_
  rintro e w5 ⟨B5, d5, rfl, HY5, hd5, hb⟩
  have HX5 := Aside0.mk (Kd.C_below HX4.out hb)
  have HB5 := Aside0.mk (below_step HB4.out hb)
  clear hb HX4
  go_wp2_with fail
  refine (HIP.out _ B4 B5 d4 d5 HX5.out hd4 HY5.out hd5).mono ?_
  rintro e w6 ⟨rfl, hb⟩
  have HX6 := Aside0.mk (Kd.C_below HX5.out hb)
  have HY6 := Aside0.mk (Kd.C_below HY5.out hb)
  have HB6 := Aside0.mk (below_step HB5.out hb)
  clear hb HX5 HY5
  go_wp2_with fail
  refine (HTB.out _ A0 c0 l0 (Kd.C_below HR0.out HB6.out) hc0 H2.out).mono ?_
  rintro e w7 ⟨B7, d7, rfl, HE7, hd7, hb⟩
  have HX7 := Aside0.mk (Kd.C_below HX6.out hb)
  have HY7 := Aside0.mk (Kd.C_below HY6.out hb)
  have HB7 := Aside0.mk (below_step HB6.out hb)
  clear hb HX6 HY6
  go_wp2_with fail
  refine (laws_eqByteS.calls k B4 d4 l0 B7 d7 l0 true w7 HX7.out hd4 HE7.out hd7 H3.out).mono ?_
  rintro ex w8 ⟨rfl, ⟨n8, rfl⟩⟩
  have HB8 := Aside0.mk (pw_below_drewN HB7.out n8)
  have HY8 := Aside0.mk (Kd.C_drewN HY7.out n8)
  clear HX7 HY7 HE7
  generalize w7.drewN n8 = w8 at HB8 HY8 ⊢
  go_wp2_with fail
  refine (HTB.out _ A1 c1 l1 (Kd.C_below HR1.out HB8.out) hc1 H2D.out).mono ?_
  rintro e w9 ⟨B9, d9, rfl, HE9, hd9, hb⟩
  have HY9 := Aside0.mk (Kd.C_below HY8.out hb)
  have HB9 := Aside0.mk (below_step HB8.out hb)
  clear hb HY8
  go_wp2_with fail
  refine (laws_eqByteS.calls k B5 d5 l1 B9 d9 l1 true w9 HY9.out hd5 HE9.out hd9 H3D.out).mono ?_
  rintro ex w10 ⟨rfl, ⟨n10, rfl⟩⟩
  go_wp2
  go_ret
  exact ⟨rfl, pw_below_drewN HB9.out n10⟩
set_option maxHeartbeats 8000000 in
set_option maxRecDepth 100000 in
theorem law_big (n0 n1 : Nat) (b : Int) (A0 A1 : Option Addr) (c0 c1 : Nat) (w : World) (hl : n0 > 1048576 ∨ n1 > 1048576) (hm0 : n0 ≤ maxLen) (hm1 : n1 ≤ maxLen) :
    Calls Try.prog 7 #[.slice A0 n0 c0, .int .i64 b, .slice A1 n1 c1] w fun e w' => e = .returned (.bool true) ∧ Below w.heap.size w w' := by
  by_cases h : n0 > 1048576
  · clear hl
    go_enter Try.func7, Try.ntmps7
    go_wp2
    go_ret
    exact ⟨rfl, Below.refl _ _⟩
  · have h1 : n1 > 1048576 := by omega
    clear hl
    go_enter Try.func7, Try.ntmps7
    go_wp2
    go_ret
    exact ⟨rfl, Below.refl _ _⟩
/-- What is asked of the arguments; the law then says 'true'. -/
def LawOk (k : Nat) (l0 : List Int) (b : Int) (l1 : List Int) (res : Bool) : Prop := res = true ∧ l0.length ≤ maxLen ∧ l1.length ≤ maxLen ∧ ((l0.length > 1048576 ∨ l1.length > 1048576) ∨ (l0.length ≤ 1048576 ∧ l1.length ≤ 1048576 ∧ (-9223372036854775808 ≤ b ∧ b < 9223372036854775808) ∧ (∀ i, 0 ≤ rd l0 i ∧ rd l0 i < 256) ∧ laws_toByteS.f k l0 = some l0 ∧ laws_toByteS.f k l1 = some l1 ∧ laws_eqByteS.f k l0 l0 = some true ∧ laws_eqByteS.f k l1 l1 = some true))
end Go.Proofs.Ytgfhbkhbnmgogaa.GFnExactPssOk.Hand
namespace Go.Proofs.Ytgfhbkhbnmgogaa.GFnExactPssOk
open Go.RowKit Go.Proofs.YtgfhbkhbnmgogaaW.PrintWords
theorem laws_FnExactPssOk.calls (k : Nat) (A0 : Option Addr) (c0 : Nat) (l0 : List Int) (b : Int) (A1 : Option Addr) (c1 : Nat) (l1 : List Int) (r : Bool) (w : World) (hr0 : Kd.C (Kd.int .u8) w A0 l0.length l0) (hc0 : l0.length ≤ c0) (hr1 : Kd.C (Kd.int .u8) w A1 l1.length l1) (hc1 : l1.length ≤ c1) (h : Hand.LawOk k l0 b l1 r) :
    Calls Try.prog 7 #[.slice A0 l0.length c0, .int .i64 b, .slice A1 l1.length c1] w fun e w' => e = .returned (.bool r) ∧ Below w.heap.size w w' := by
  obtain ⟨rfl, hm0, hm1, h | ⟨hl0, hl1, h1, h2, h3, h4, h5, h6⟩⟩ := h
  · exact Hand.law_big _ _ b A0 A1 c0 c1 w h hm0 hm1
  · exact Hand.law_in k l0 l1 b A0 A1 c0 c1 w hr0 hc0 hr1 hc1 hl0 hl1 h1 h2 h3 h4 h5 h6
def laws_FnExactPssOk.Pure : Prop := ∀ (l0 : List Int) (b : Int) (l1 : List Int), l0.length ≤ maxLen → l0.length * 1 ≤ 140737488351232 → (∀ x ∈ l0, (Lit.int .u8 x).wf = true) → (Lit.int .i64 b).wf = true → l1.length ≤ maxLen → l1.length * 1 ≤ 140737488351232 → (∀ x ∈ l1, (Lit.int .u8 x).wf = true) → ∃ k, Hand.LawOk k l0 b l1 true
theorem laws_FnExactPssOk.walk (P : laws_FnExactPssOk.Pure) (a0 : Option Addr) (len0 cap0 : Nat) (z0 : List Int) (b : Int) (a1 : Option Addr) (len1 cap1 : Nat) (z1 : List Int) (w : World) (w0 : (a0 = none ∧ len0 = 0 ∧ cap0 = 0 ∧ z0 = []) ∨ ∃ x, a0 = some x ∧ len0 ≤ cap0 ∧ cap0 ≤ maxLen ∧ z0.length = cap0 ∧ (∀ i, i < z0.length → w.cell? (x.add i) = some (.int .u8 (z0.getD i 0))) ∧ ∀ n ∈ z0, (Lit.int .u8 n).wf = true) (wb : (Lit.int .i64 b).wf = true) (w1 : (a1 = none ∧ len1 = 0 ∧ cap1 = 0 ∧ z1 = []) ∨ ∃ x, a1 = some x ∧ len1 ≤ cap1 ∧ cap1 ≤ maxLen ∧ z1.length = cap1 ∧ (∀ i, i < z1.length → w.cell? (x.add i) = some (.int .u8 (z1.getD i 0))) ∧ ∀ n ∈ z1, (Lit.int .u8 n).wf = true) (y0 : len0 * 1 ≤ 140737488351232) (y1 : len1 * 1 ≤ 140737488351232) :
    Calls Try.prog 7 #[.slice a0 len0 cap0, .int .i64 b, .slice a1 len1 cap1] w fun e w' => e = .returned (.bool true) ∧ Below w.heap.size w w' := by
  obtain ⟨l0, rfl, hr0, hm0, hw0, hc0⟩ := ReadsInt.ofRowC w0
  obtain ⟨l1, rfl, hr1, hm1, hw1, hc1⟩ := ReadsInt.ofRowC w1
  obtain ⟨k, h⟩ := P l0 b l1 hm0 y0 hw0 wb hm1 y1 hw1
  exact laws_FnExactPssOk.calls k _ _ l0 b _ _ l1 true w (Kd.C_of_reads (d := (0 : Int)) (h1 := fun _ => rfl) hr0) hc0 (Kd.C_of_reads (d := (0 : Int)) (h1 := fun _ => rfl) hr1) hc1 h
end Go.Proofs.Ytgfhbkhbnmgogaa.GFnExactPssOk
