import Derived.Test.YtgfhbkhbnmgogaaGFnExactFeedFdf
import Derived.Test.YtgfhbkhbnmgogaaGFnExactFeedDigLaw
namespace Go.Proofs.Ytgfhbkhbnmgogaa.GFnExactFeed.Hand
open Go.RowKit Go.Proofs.YtgfhbkhbnmgogaaW.PrintWords Go.Proofs.YtgfhbkhbnmgogaaW.PrintLast Go.Proofs.YtgfhbkhbnmgogaaW.PrintMore Go.Proofs.Ytgfhbkhbnmgogaa.GFnExactHmac.Hand
set_option linter.unusedVariables false
set_option linter.unusedSimpArgs false
/-! ### laws.FnExactFeed (4), along its one way -/
set_option maxHeartbeats 16000000 in
set_option maxRecDepth 100000 in
theorem flaw_in (k : Nat) (H V : V8) (A : Option Addr) (n c : Nat) (rs ds r mk0 mk1 mr : List Int) (m m' : Int) (ok : Bool) (Ad : Option Addr) (nd cd : Nat) (w : World) (hC : KB.C w A n rs) (en : rs.length = n) (hc : n ≤ c) (hD : KB.C w Ad nd ds) (ed : ds.length = nd) (hcd : nd ≤ cd) (hl : n ≤ 1048576) (hld : nd ≤ 1048576) (hm : -9223372036854775808 ≤ m ∧ m < 9223372036854775808)
    (hV : fdV H rs m ds = V) (hres : fdL H rs m ds = r) (hM : fdM H rs m ds = m') (hok : fdOk H n m nd = ok) (h2 : laws_toByteS.f k rs = some rs) (h2d : laws_toByteS.f k ds = some ds) (h3 : laws_eqByteS.f k rs rs = some true) (h3d : laws_eqByteS.f k ds ds = some true) (hrr : laws_eqByteS.f k r r = some true)
    (hm0 : laws_markByteS.f k rs 1 = some (1 + (n : Int), mk0)) (hm1 : laws_markByteS.f k ds (1 + (n : Int)) = some (1 + (n : Int) + (nd : Int), mk1)) (hm2 : laws_markByteS.f k r 1 = some (1 + (r.length : Int), mr)) (hml : mr.length = r.length) (hh : laws_heldByteS.f k mr 1 = some (1 + (r.length : Int))) :
    Calls Try.prog 4 #[.agg (stC H.l (.slice A n c) m), .slice Ad nd cd] w fun e w' => e = .returned (.bool true) ∧ Below w.heap.size w w' := by
  have HC := Aside0.mk hC
  have EN := Aside0.mk en
  have HDA := Aside0.mk hD
  have ED := Aside0.mk ed
  have H2 := Aside0.mk h2
  have H2D := Aside0.mk h2d
  have H3 := Aside0.mk h3
  have H3D := Aside0.mk h3d
  have HRR := Aside0.mk hrr
  have HM0 := Aside0.mk hm0
  have HM1 := Aside0.mk hm1
  have HM2 := Aside0.mk hm2
  have HML := Aside0.mk hml
  have HH := Aside0.mk hh
  have hlr : r.length ≤ 1048576 := by rw [← hres]; exact fdL_length _ _ _ _ (by omega)
  have hnm : n ≤ maxLen := by unfold maxLen; omega
  have hoo : (ok != ok) = false := by simp
  have HSF : Aside0 (∀ (w : World) (A Ad : Option Addr) (c cd : Nat), KB.C w A n rs → n ≤ c → KB.C w Ad nd ds → Calls Try.prog 15 #[.agg (stC H.l (.slice A n c) m), .slice Ad nd cd] w fun e w' => ∃ (A' : Option Addr) (c' : Nat), e = .returned (.tuple #[.agg (stC V.l (.slice A' r.length c') m'), .bool ok]) ∧ KB.R 5 w' w.heap.size (fun k => w.heap.size ≤ k ∧ k < w'.heap.size) (.slice A' r.length c') r ∧ Below w.heap.size w w') := ⟨fun w A Ad c cd h1 h2 h3 => by
    refine (sfd_calls H A n c rs m Ad nd cd ds w h1 EN.out h2 h3 ED.out hm hl hld).mono ?_
    rintro e w' ⟨A', c', rfl, hr, hb⟩
    rw [hV, hres, hM, hok]
    rw [hres] at hr
    exact ⟨A', c', rfl, R_own hr, hb⟩⟩
  have HIF : Aside0 (∀ (w : World) (A Ad : Option Addr) (c cd : Nat), KB.C w A n rs → n ≤ c → KB.C w Ad nd ds → Calls Try.prog 17 #[.agg (stC H.l (.slice A n c) m), .slice Ad nd cd] w fun e w' => ∃ (A' : Option Addr) (c' : Nat), e = .returned (.tuple #[.agg (stC V.l (.slice A' r.length c') m'), .bool ok]) ∧ KB.R 5 w' w.heap.size (fun k => w.heap.size ≤ k ∧ k < w'.heap.size) (.slice A' r.length c') r ∧ Below w.heap.size w w') := ⟨fun w A Ad c cd h1 h2 h3 => by
    refine (fd_calls H A n c rs m Ad nd cd ds w h1 EN.out h2 h3 ED.out hm hl hld).mono ?_
    rintro e w' ⟨A', c', rfl, hr, hb⟩
    rw [hV, hres, hM, hok]
    rw [hres] at hr
    exact ⟨A', c', rfl, R_own hr, hb⟩⟩
  have HTB : Aside0 (∀ (w : World), KB.C w Ad nd ds → Calls Try.prog 9 #[.slice Ad nd cd] w fun e w' => ∃ (A' : Option Addr) (c' : Nat), e = .returned (.slice A' nd c') ∧ nd ≤ c' ∧ Aside0 (KB.R 5 w' w.heap.size (fun k => w.heap.size ≤ k ∧ k < w'.heap.size) (.slice A' nd c') ds) ∧ Aside0 (Below w.heap.size w w')) := ⟨fun w h1 => by
    refine (toB_calls k Ad nd cd ds w h1 ED.out hcd H2D.out).mono ?_
    rintro e w' ⟨A', c', rfl, hd, hr, hb⟩
    exact ⟨A', c', rfl, hd, ⟨R_own hr.out⟩, hb⟩⟩
  have HCX : Aside0 (∀ {W : World} {base : Nat} {ok : Nat → Prop} {B : Option Addr} {d : Nat}, KB.R 5 W base ok (.slice B n d) rs → KB.C W B n rs) := ⟨fun h => by have h := (Kd.R_reads' h).2.2; rw [EN.out] at h; exact h⟩
  have HCD : Aside0 (∀ {W : World} {base : Nat} {ok : Nat → Prop} {B : Option Addr} {d : Nat}, KB.R 5 W base ok (.slice B nd d) ds → KB.C W B nd ds) := ⟨fun h => by have h := (Kd.R_reads' h).2.2; rw [ED.out] at h; exact h⟩
  have hsz := sz_calls H A n c rs m (w.alloc (.cells #[.int .i64 H.a, .int .i64 H.b, .int .i64 H.c, .int .i64 H.d, .int .i64 H.e, .int .i64 H.f, .int .i64 H.g, .int .i64 H.h, .slice A n c, .int .i64 m] 30)) (Kd.C_alloc hC _) en hc hnm
  rw [if_pos hl] at hsz
  have HSZ := Aside0.mk hsz
  have HBX : Aside0 ((w.alloc (.cells #[.int .i64 H.a, .int .i64 H.b, .int .i64 H.c, .int .i64 H.d, .int .i64 H.e, .int .i64 H.f, .int .i64 H.g, .int .i64 H.h, .slice A n c, .int .i64 m] 30)).heap[w.heap.size]? = some (.cells (stC H.l (.slice A n c) m) 30 (0, 0))) := ⟨heap_alloc_last _ _⟩
  clear hC en h2 h3 hrr hm0 hm1 hm2 hml hh hres hsz hV hM hok hD ed h2d h3d
  show Calls Try.prog 4 #[.agg #[.int .i64 H.a, .int .i64 H.b, .int .i64 H.c, .int .i64 H.d, .int .i64 H.e, .int .i64 H.f, .int .i64 H.g, .int .i64 H.h, .slice A n c, .int .i64 m], .slice Ad nd cd] w _
  go_enter Try.func4, Try.ntmps4
  go_wp2_with ((with_reducible refine gate_dst (N := 20) rfl ?_); refine load_ev (t := 30) (x := .tmp 2) (g := w.heap.size) rfl rfl rfl Try.underlying30 rfl HBX.out (by rw [stC_size]; kernel_rfl) ?_)
  refine HSZ.out.mono ?_
  rintro e w1 ⟨rfl, hb⟩
  have HB1 := Aside0.mk (below_step (below_alloc (Below.refl w.heap.size w) _) hb)
  have HBX1 := Aside0.mk (blk_below HBX.out hb)
  clear hb HBX HSZ
  go_wp2_with ((with_reducible refine gate_dst (N := 26) rfl ?_); refine load_ev (t := 30) (x := .tmp 2) (g := w.heap.size) rfl rfl rfl Try.underlying30 rfl HBX1.out (by rw [stC_size]; kernel_rfl) ?_)
  refine (toS_calls k H A n c rs m w1 (Kd.C_below HC.out HB1.out) EN.out hc H2.out).mono ?_
  rintro e w2 ⟨B2, d2, rfl, hd2, HR2, hb⟩
  have HB2 := Aside0.mk (below_step HB1.out hb.out)
  have HBX2 := Aside0.mk (blk_below HBX1.out hb.out)
  have HX2 := Aside0.mk (HCX.out HR2.out)
  clear hb HR2 HBX1
  go_wp2_with fail
  refine (HTB.out w2 (Kd.C_below HDA.out HB2.out)).mono ?_
  rintro e w3 ⟨D3, e3, rfl, he3, HR3, hb⟩
  have HB3 := Aside0.mk (below_step HB2.out hb.out)
  have HBX3 := Aside0.mk (blk_below HBX2.out hb.out)
  have HX3 := Aside0.mk (Kd.C_below HX2.out hb.out)
  have HY3 := Aside0.mk (HCD.out HR3.out)
  have S03 : w.heap.size < w3.heap.size := blk_lt HBX3.out
  clear hb HR3 HBX2 HX2
  go_wp2_with fail
  refine (HSF.out w3 B2 D3 d2 e3 HX3.out hd2 HY3.out).mono ?_
  rintro e w4 ⟨Bv, dv, rfl, hr, hb⟩
  have HB4 := Aside0.mk (below_step HB3.out hb)
  have HBX4 := Aside0.mk (blk_below HBX3.out hb)
  have HV4 := Aside0.mk hr
  have S34 : w3.heap.size ≤ w4.heap.size := hb.size
  clear hb hr HX3 HY3 HBX3
  go_wp2_with ((with_reducible refine gate_store (t := 32) (p := 6) (v := .tmp 31) rfl ?_); refine store_row (t := 32) (p := 6) (y := .tmp 31) (g := w4.heap.size) (c' := stC V.l (.slice Bv r.length dv) m') rfl rfl rfl rfl rfl (heap_alloc_last _ _) (by rw [stC_size]; kernel_rfl) (by rw [stC_size]; rfl) (stC_one _ _ _ _ _) ?_; intro w5 hw5 ho5 hB5; refine halt_ ?_)
  unfold Halt_
  have S45 : w4.heap.size + 1 ≤ w5.heap.size := by
    have h1 := (hB5 0 (by omega)).size
    rw [size_alloc] at h1
    exact h1
  have HP5 := Aside0.mk hw5
  have HBX5 : Aside0 (w5.heap[w.heap.size]? = some (.cells (stC H.l (.slice A n c) m) 30 (0, 0))) := ⟨(ho5 _ (by omega)).trans (blk_alloc HBX4.out _)⟩
  have HB5 : Aside0 (Below w.heap.size w w5) := ⟨(below_alloc HB4.out _).trans (hB5 _ (by omega))⟩
  have HV5 : Aside0 (KB.R 5 w5 w3.heap.size (fun k => w3.heap.size ≤ k ∧ k < w4.heap.size) (.slice Bv r.length dv) r) := ⟨Kd.R_step (Kd.R_alloc HV4.out _) (fun k hk hlt => ho5 k (by omega))⟩
  clear hw5 ho5 hB5 HBX4 HB4 HV4
  go_wp2_with ((with_reducible refine gate_dst (N := 33) rfl ?_); refine load_ev (t := 30) (x := .tmp 2) (g := w.heap.size) rfl rfl rfl Try.underlying30 rfl HBX5.out (by rw [stC_size]; kernel_rfl) ?_)
  refine (toS_calls k H A n c rs m w5 (Kd.C_below HC.out HB5.out) EN.out hc H2.out).mono ?_
  rintro e w6 ⟨B6, d6, rfl, hd6, HX6, hb⟩
  have HB6 := Aside0.mk (below_step HB5.out hb.out)
  have HBX6 := Aside0.mk (blk_below HBX5.out hb.out)
  have HP6 := Aside0.mk (blk_below HP5.out hb.out)
  have HV6 := Aside0.mk (Kd.R_below HV5.out hb.out)
  have S56 : w5.heap.size ≤ w6.heap.size := hb.out.size
  clear hb HBX5 HP5 HV5
  go_wp2_with ((with_reducible refine gate_store (t := 32) (p := 8) (v := .tmp 34) rfl ?_); refine store_row (t := 32) (p := 8) (y := .tmp 34) (g := w6.heap.size) (c' := stC H.l (.slice B6 n d6) m) rfl rfl rfl rfl rfl (heap_alloc_last _ _) (by rw [stC_size]; kernel_rfl) (by rw [stC_size]; rfl) (stC_one _ _ _ _ _) ?_; intro w7 hw7 ho7 hB7; refine halt_ ?_)
  unfold Halt_
  have S67 : w6.heap.size + 1 ≤ w7.heap.size := by
    have h1 := (hB7 0 (by omega)).size
    rw [size_alloc] at h1
    exact h1
  have HQ7 := Aside0.mk hw7
  have HBX7 : Aside0 (w7.heap[w.heap.size]? = some (.cells (stC H.l (.slice A n c) m) 30 (0, 0))) := ⟨(ho7 _ (by omega)).trans (blk_alloc HBX6.out _)⟩
  have HP7 : Aside0 (w7.heap[w4.heap.size]? = some (.cells (stC V.l (.slice Bv r.length dv) m') 32 (0, 0))) := ⟨(ho7 _ (by omega)).trans (blk_alloc HP6.out _)⟩
  have HB7 : Aside0 (Below w.heap.size w w7) := ⟨(below_alloc HB6.out _).trans (hB7 _ (by omega))⟩
  have HV7 : Aside0 (KB.R 5 w7 w3.heap.size (fun k => w3.heap.size ≤ k ∧ k < w4.heap.size) (.slice Bv r.length dv) r) := ⟨Kd.R_step (Kd.R_alloc HV6.out _) (fun k hk hlt => ho7 k (by omega))⟩
  have HX7 : Aside0 (KB.R 5 w7 w5.heap.size (fun k => w5.heap.size ≤ k ∧ k < w6.heap.size) (.slice B6 n d6) rs) := ⟨Kd.R_step (Kd.R_alloc HX6.out _) (fun k hk hlt => ho7 k (by omega))⟩
  clear hw7 ho7 hB7 HBX6 HP6 HB6 HV6 HX6
  go_wp2_with fail
  refine (HTB.out w7 (Kd.C_below HDA.out HB7.out)).mono ?_
  rintro e w8 ⟨D8, e8, rfl, he8, HY8, hb⟩
  have HB8 := Aside0.mk (below_step HB7.out hb.out)
  have HBX8 := Aside0.mk (blk_below HBX7.out hb.out)
  have HP8 := Aside0.mk (blk_below HP7.out hb.out)
  have HQ8 := Aside0.mk (blk_below HQ7.out hb.out)
  have HV8 := Aside0.mk (Kd.R_below HV7.out hb.out)
  have HX8 := Aside0.mk (Kd.R_below HX7.out hb.out)
  have S78 : w7.heap.size ≤ w8.heap.size := hb.out.size
  clear hb HBX7 HP7 HQ7 HV7 HX7
  go_wp2_with ((with_reducible refine gate_dst (N := 38) rfl ?_); refine load_ev (t := 32) (x := .tmp 8) (g := w6.heap.size) rfl rfl rfl Try.underlying32 rfl HQ8.out (by rw [stC_size]; kernel_rfl) ?_)
  refine (HIF.out w8 B6 D8 d6 e8 (HCX.out HX8.out) hd6 (HCD.out HY8.out)).mono ?_
  rintro e w9 ⟨Bg, dg, rfl, hr, hb⟩
  have HB9 := Aside0.mk (below_step HB8.out hb)
  have HBX9 := Aside0.mk (blk_below HBX8.out hb)
  have HP9 := Aside0.mk (blk_below HP8.out hb)
  have HQ9 := Aside0.mk (blk_below HQ8.out hb)
  have HV9 := Aside0.mk (Kd.R_below HV8.out hb)
  have HX9 := Aside0.mk (Kd.R_below HX8.out hb)
  have HY9 := Aside0.mk (Kd.R_below HY8.out hb)
  have HG9 := Aside0.mk hr
  have S89 : w8.heap.size ≤ w9.heap.size := hb.size
  clear hb hr HBX8 HP8 HQ8 HV8 HX8 HY8
  go_wp2_with ((with_reducible refine gate_store (t := 32) (p := 10) (v := .tmp 41) rfl ?_); refine store_row (t := 32) (p := 10) (y := .tmp 41) (g := w9.heap.size) (c' := stC V.l (.slice Bg r.length dg) m') rfl rfl rfl rfl rfl (heap_alloc_last _ _) (by rw [stC_size]; kernel_rfl) (by rw [stC_size]; rfl) (stC_one _ _ _ _ _) ?_; intro w10 hw10 ho10 hB10; refine halt_ ?_)
  unfold Halt_
  have S910 : w9.heap.size + 1 ≤ w10.heap.size := by
    have h1 := (hB10 0 (by omega)).size
    rw [size_alloc] at h1
    exact h1
  have HG10 := Aside0.mk hw10
  have HBX10 : Aside0 (w10.heap[w.heap.size]? = some (.cells (stC H.l (.slice A n c) m) 30 (0, 0))) := ⟨(ho10 _ (by omega)).trans (blk_alloc HBX9.out _)⟩
  have HP10 : Aside0 (w10.heap[w4.heap.size]? = some (.cells (stC V.l (.slice Bv r.length dv) m') 32 (0, 0))) := ⟨(ho10 _ (by omega)).trans (blk_alloc HP9.out _)⟩
  have HQ10 : Aside0 (w10.heap[w6.heap.size]? = some (.cells (stC H.l (.slice B6 n d6) m) 32 (0, 0))) := ⟨(ho10 _ (by omega)).trans (blk_alloc HQ9.out _)⟩
  have HB10 : Aside0 (Below w.heap.size w w10) := ⟨(below_alloc HB9.out _).trans (hB10 _ (by omega))⟩
  have HV10 : Aside0 (KB.R 5 w10 w3.heap.size (fun k => w3.heap.size ≤ k ∧ k < w4.heap.size) (.slice Bv r.length dv) r) := ⟨Kd.R_step (Kd.R_alloc HV9.out _) (fun k hk hlt => ho10 k (by omega))⟩
  have HX10 : Aside0 (KB.R 5 w10 w5.heap.size (fun k => w5.heap.size ≤ k ∧ k < w6.heap.size) (.slice B6 n d6) rs) := ⟨Kd.R_step (Kd.R_alloc HX9.out _) (fun k hk hlt => ho10 k (by omega))⟩
  have HY10 : Aside0 (KB.R 5 w10 w7.heap.size (fun k => w7.heap.size ≤ k ∧ k < w8.heap.size) (.slice D8 nd e8) ds) := ⟨Kd.R_step (Kd.R_alloc HY9.out _) (fun k hk hlt => ho10 k (by omega))⟩
  have HR10 : Aside0 (KB.R 5 w10 w8.heap.size (fun k => w8.heap.size ≤ k ∧ k < w9.heap.size) (.slice Bg r.length dg) r) := ⟨Kd.R_step (Kd.R_alloc HG9.out _) (fun k hk hlt => ho10 k (by omega))⟩
  clear hw10 ho10 hB10 HBX9 HP9 HQ9 HB9 HV9 HX9 HY9 HG9
  have CH : Aside0 (w.heap.size < w3.heap.size ∧ w3.heap.size ≤ w4.heap.size ∧ w4.heap.size + 1 ≤ w5.heap.size ∧ w5.heap.size ≤ w6.heap.size ∧ w6.heap.size + 1 ≤ w7.heap.size ∧ w7.heap.size ≤ w8.heap.size ∧ w8.heap.size ≤ w9.heap.size ∧ w9.heap.size + 1 ≤ w10.heap.size) := ⟨⟨S03, S34, S45, S56, S67, S78, S89, S910⟩⟩
  clear S03 S34 S45 S56 S67 S78 S89 S910
  go_wp2_with (first | ((with_reducible refine gate_dst (N := 43) rfl ?_); refine load_ev (t := 32) (x := .tmp 10) (g := w9.heap.size) rfl rfl rfl Try.underlying32 rfl HG10.out (by rw [stC_size]; kernel_rfl) ?_) | ((with_reducible refine gate_dst (N := 44) rfl ?_); refine load_ev (t := 32) (x := .tmp 6) (g := w4.heap.size) rfl rfl rfl Try.underlying32 rfl HP10.out (by rw [stC_size]; kernel_rfl) ?_))
  refine (eqS_calls k V Bg r.length dg Bv dv r m' w10 (Kd.R_reads' HR10.out).2.2 (Kd.R_reads' HV10.out).2.2 rfl (Kd.R_reads' HR10.out).2.1 (Kd.R_reads' HV10.out).2.1 HRR.out).mono ?_
  rintro ex w11 ⟨rfl, hb⟩
  have HB11 := Aside0.mk (below_step HB10.out hb)
  have HBX11 := Aside0.mk (blk_below HBX10.out hb)
  have HP11 := Aside0.mk (blk_below HP10.out hb)
  have HQ11 := Aside0.mk (blk_below HQ10.out hb)
  have HG11 := Aside0.mk (blk_below HG10.out hb)
  have HV11 := Aside0.mk (Kd.R_below HV10.out hb)
  have HX11 := Aside0.mk (Kd.R_below HX10.out hb)
  have HY11 := Aside0.mk (Kd.R_below HY10.out hb)
  have HR11 := Aside0.mk (Kd.R_below HR10.out hb)
  have S11 : Aside0 (w10.heap.size ≤ w11.heap.size) := ⟨hb.size⟩
  clear hb HBX10 HP10 HQ10 HG10 HV10 HX10 HY10 HR10
  have HSS : Aside0 (∀ W : World, Below w11.heap.size w11 W → (W.cell? ⟨w6.heap.size, 0, none⟩ = some (.int .i64 H.a) ∧ W.cell? ⟨w6.heap.size, 1, none⟩ = some (.int .i64 H.b) ∧ W.cell? ⟨w6.heap.size, 2, none⟩ = some (.int .i64 H.c) ∧ W.cell? ⟨w6.heap.size, 3, none⟩ = some (.int .i64 H.d) ∧ W.cell? ⟨w6.heap.size, 4, none⟩ = some (.int .i64 H.e) ∧ W.cell? ⟨w6.heap.size, 5, none⟩ = some (.int .i64 H.f) ∧ W.cell? ⟨w6.heap.size, 6, none⟩ = some (.int .i64 H.g) ∧ W.cell? ⟨w6.heap.size, 7, none⟩ = some (.int .i64 H.h) ∧ W.cell? ⟨w6.heap.size, 8, none⟩ = some (.slice B6 n d6) ∧ W.cell? ⟨w6.heap.size, 9, none⟩ = some (.int .i64 m)) ∧ (W.cell? ⟨w.heap.size, 0, none⟩ = some (.int .i64 H.a) ∧ W.cell? ⟨w.heap.size, 1, none⟩ = some (.int .i64 H.b) ∧ W.cell? ⟨w.heap.size, 2, none⟩ = some (.int .i64 H.c) ∧ W.cell? ⟨w.heap.size, 3, none⟩ = some (.int .i64 H.d) ∧ W.cell? ⟨w.heap.size, 4, none⟩ = some (.int .i64 H.e) ∧ W.cell? ⟨w.heap.size, 5, none⟩ = some (.int .i64 H.f) ∧ W.cell? ⟨w.heap.size, 6, none⟩ = some (.int .i64 H.g) ∧ W.cell? ⟨w.heap.size, 7, none⟩ = some (.int .i64 H.h) ∧ W.cell? ⟨w.heap.size, 8, none⟩ = some (.slice A n c) ∧ W.cell? ⟨w.heap.size, 9, none⟩ = some (.int .i64 m))) := ⟨fun W h => ⟨blk_facts (blk_below HQ11.out h), blk_facts (blk_below HBX11.out h)⟩⟩
  have HTS : Aside0 (∀ W : World, Below w11.heap.size w11 W → Calls Try.prog 16 #[.agg #[.int .i64 H.a, .int .i64 H.b, .int .i64 H.c, .int .i64 H.d, .int .i64 H.e, .int .i64 H.f, .int .i64 H.g, .int .i64 H.h, .slice A n c, .int .i64 m]] W fun e w' => ∃ (A' : Option Addr) (c' : Nat), e = .returned (.agg #[.int .i64 H.a, .int .i64 H.b, .int .i64 H.c, .int .i64 H.d, .int .i64 H.e, .int .i64 H.f, .int .i64 H.g, .int .i64 H.h, .slice A' n c', .int .i64 m]) ∧ n ≤ c' ∧ Aside0 (KB.C w' A' n rs) ∧ Aside0 (Below w11.heap.size w11 w') ∧ (w'.cell? ⟨w6.heap.size, 0, none⟩ = some (.int .i64 H.a) ∧ w'.cell? ⟨w6.heap.size, 1, none⟩ = some (.int .i64 H.b) ∧ w'.cell? ⟨w6.heap.size, 2, none⟩ = some (.int .i64 H.c) ∧ w'.cell? ⟨w6.heap.size, 3, none⟩ = some (.int .i64 H.d) ∧ w'.cell? ⟨w6.heap.size, 4, none⟩ = some (.int .i64 H.e) ∧ w'.cell? ⟨w6.heap.size, 5, none⟩ = some (.int .i64 H.f) ∧ w'.cell? ⟨w6.heap.size, 6, none⟩ = some (.int .i64 H.g) ∧ w'.cell? ⟨w6.heap.size, 7, none⟩ = some (.int .i64 H.h) ∧ w'.cell? ⟨w6.heap.size, 8, none⟩ = some (.slice B6 n d6) ∧ w'.cell? ⟨w6.heap.size, 9, none⟩ = some (.int .i64 m)) ∧ (w'.cell? ⟨w.heap.size, 0, none⟩ = some (.int .i64 H.a) ∧ w'.cell? ⟨w.heap.size, 1, none⟩ = some (.int .i64 H.b) ∧ w'.cell? ⟨w.heap.size, 2, none⟩ = some (.int .i64 H.c) ∧ w'.cell? ⟨w.heap.size, 3, none⟩ = some (.int .i64 H.d) ∧ w'.cell? ⟨w.heap.size, 4, none⟩ = some (.int .i64 H.e) ∧ w'.cell? ⟨w.heap.size, 5, none⟩ = some (.int .i64 H.f) ∧ w'.cell? ⟨w.heap.size, 6, none⟩ = some (.int .i64 H.g) ∧ w'.cell? ⟨w.heap.size, 7, none⟩ = some (.int .i64 H.h) ∧ w'.cell? ⟨w.heap.size, 8, none⟩ = some (.slice A n c) ∧ w'.cell? ⟨w.heap.size, 9, none⟩ = some (.int .i64 m))) := ⟨fun W hW => by
    refine (toS_calls k H A n c rs m W (Kd.C_below (Kd.C_below HC.out HB11.out) hW) EN.out hc H2.out).mono ?_
    rintro e w' ⟨A', c', rfl, hd, hR, hb⟩
    exact ⟨A', c', rfl, hd, ⟨HCX.out hR.out⟩, ⟨below_step hW hb.out⟩, HSS.out _ (below_step hW hb.out)⟩⟩
  have HEQ : Aside0 (∀ (W : World) (A' : Option Addr) (c' : Nat), Below w11.heap.size w11 W → n ≤ c' → KB.C W A' n rs → Calls Try.prog 18 #[.agg #[.int .i64 H.a, .int .i64 H.b, .int .i64 H.c, .int .i64 H.d, .int .i64 H.e, .int .i64 H.f, .int .i64 H.g, .int .i64 H.h, .slice B6 n d6, .int .i64 m], .agg #[.int .i64 H.a, .int .i64 H.b, .int .i64 H.c, .int .i64 H.d, .int .i64 H.e, .int .i64 H.f, .int .i64 H.g, .int .i64 H.h, .slice A' n c', .int .i64 m]] W fun e w' => e = .returned (.bool true) ∧ Aside0 (Below w11.heap.size w11 w') ∧ (w'.cell? ⟨w6.heap.size, 0, none⟩ = some (.int .i64 H.a) ∧ w'.cell? ⟨w6.heap.size, 1, none⟩ = some (.int .i64 H.b) ∧ w'.cell? ⟨w6.heap.size, 2, none⟩ = some (.int .i64 H.c) ∧ w'.cell? ⟨w6.heap.size, 3, none⟩ = some (.int .i64 H.d) ∧ w'.cell? ⟨w6.heap.size, 4, none⟩ = some (.int .i64 H.e) ∧ w'.cell? ⟨w6.heap.size, 5, none⟩ = some (.int .i64 H.f) ∧ w'.cell? ⟨w6.heap.size, 6, none⟩ = some (.int .i64 H.g) ∧ w'.cell? ⟨w6.heap.size, 7, none⟩ = some (.int .i64 H.h) ∧ w'.cell? ⟨w6.heap.size, 8, none⟩ = some (.slice B6 n d6) ∧ w'.cell? ⟨w6.heap.size, 9, none⟩ = some (.int .i64 m)) ∧ (w'.cell? ⟨w.heap.size, 0, none⟩ = some (.int .i64 H.a) ∧ w'.cell? ⟨w.heap.size, 1, none⟩ = some (.int .i64 H.b) ∧ w'.cell? ⟨w.heap.size, 2, none⟩ = some (.int .i64 H.c) ∧ w'.cell? ⟨w.heap.size, 3, none⟩ = some (.int .i64 H.d) ∧ w'.cell? ⟨w.heap.size, 4, none⟩ = some (.int .i64 H.e) ∧ w'.cell? ⟨w.heap.size, 5, none⟩ = some (.int .i64 H.f) ∧ w'.cell? ⟨w.heap.size, 6, none⟩ = some (.int .i64 H.g) ∧ w'.cell? ⟨w.heap.size, 7, none⟩ = some (.int .i64 H.h) ∧ w'.cell? ⟨w.heap.size, 8, none⟩ = some (.slice A n c) ∧ w'.cell? ⟨w.heap.size, 9, none⟩ = some (.int .i64 m))) := ⟨fun W A' c' hW hd hc' => by
    refine (eqS_calls k H B6 n d6 A' c' rs m W (Kd.C_below (HCX.out HX11.out) hW) hc' EN.out hd6 hd H3.out).mono ?_
    rintro e w' ⟨rfl, hb⟩
    exact ⟨rfl, ⟨below_step hW hb⟩, HSS.out _ (below_step hW hb)⟩⟩
  go_upto_region 13 with (fail)
  go_cut [56] (fun v56 wc => v56 = .bool false ∧ Aside0 (Below w11.heap.size w11 wc))
  case first =>
    obtain ⟨⟨qa0, qa1, qa2, qa3, qa4, qa5, qa6, qa7, qa8, qa9⟩, ⟨qb0, qb1, qb2, qb3, qb4, qb5, qb6, qb7, qb8, qb9⟩⟩ := HSS.out w11 (Below.refl _ _)
    go_region_held3 (fun w' => (w'.cell? ⟨w6.heap.size, 0, none⟩ = some (.int .i64 H.a) ∧ w'.cell? ⟨w6.heap.size, 1, none⟩ = some (.int .i64 H.b) ∧ w'.cell? ⟨w6.heap.size, 2, none⟩ = some (.int .i64 H.c) ∧ w'.cell? ⟨w6.heap.size, 3, none⟩ = some (.int .i64 H.d) ∧ w'.cell? ⟨w6.heap.size, 4, none⟩ = some (.int .i64 H.e) ∧ w'.cell? ⟨w6.heap.size, 5, none⟩ = some (.int .i64 H.f) ∧ w'.cell? ⟨w6.heap.size, 6, none⟩ = some (.int .i64 H.g) ∧ w'.cell? ⟨w6.heap.size, 7, none⟩ = some (.int .i64 H.h) ∧ w'.cell? ⟨w6.heap.size, 8, none⟩ = some (.slice B6 n d6) ∧ w'.cell? ⟨w6.heap.size, 9, none⟩ = some (.int .i64 m)) ∧ (w'.cell? ⟨w.heap.size, 0, none⟩ = some (.int .i64 H.a) ∧ w'.cell? ⟨w.heap.size, 1, none⟩ = some (.int .i64 H.b) ∧ w'.cell? ⟨w.heap.size, 2, none⟩ = some (.int .i64 H.c) ∧ w'.cell? ⟨w.heap.size, 3, none⟩ = some (.int .i64 H.d) ∧ w'.cell? ⟨w.heap.size, 4, none⟩ = some (.int .i64 H.e) ∧ w'.cell? ⟨w.heap.size, 5, none⟩ = some (.int .i64 H.f) ∧ w'.cell? ⟨w.heap.size, 6, none⟩ = some (.int .i64 H.g) ∧ w'.cell? ⟨w.heap.size, 7, none⟩ = some (.int .i64 H.h) ∧ w'.cell? ⟨w.heap.size, 8, none⟩ = some (.slice A n c) ∧ w'.cell? ⟨w.heap.size, 9, none⟩ = some (.int .i64 m))) (go_keep) ((first | (go_at_call 16; refine (HTS.out _ (by repeat (first | exact Below.refl _ _ | apply pw_below_drewN | apply below_drew))).mono ?_; rintro e w12 ⟨A12, c12, rfl, hd12, HC12, HB12, ⟨qc0, qc1, qc2, qc3, qc4, qc5, qc6, qc7, qc8, qc9⟩, ⟨qd0, qd1, qd2, qd3, qd4, qd5, qd6, qd7, qd8, qd9⟩⟩) | (go_at_call 18; refine (HEQ.out _ A12 c12 HB12.out hd12 HC12.out).mono ?_; rintro e w13 ⟨rfl, HB13, ⟨qe0, qe1, qe2, qe3, qe4, qe5, qe6, qe7, qe8, qe9⟩, ⟨qf0, qf1, qf2, qf3, qf4, qf5, qf6, qf7, qf8, qf9⟩⟩)))
    go_wp2
    go_meet
    case rel => exact ⟨rfl, HB13⟩
  case rest =>
    obtain ⟨rfl, hbc⟩ := hcut
    have HB12 := Aside0.mk (below_step HB11.out hbc.out)
    have HBX12 := Aside0.mk (blk_below HBX11.out hbc.out)
    have HP12 := Aside0.mk (blk_below HP11.out hbc.out)
    have HQ12 := Aside0.mk (blk_below HQ11.out hbc.out)
    have HG12 := Aside0.mk (blk_below HG11.out hbc.out)
    have HV12 := Aside0.mk (Kd.R_below HV11.out hbc.out)
    have HX12 := Aside0.mk (Kd.R_below HX11.out hbc.out)
    have HY12 := Aside0.mk (Kd.R_below HY11.out hbc.out)
    have HR12 := Aside0.mk (Kd.R_below HR11.out hbc.out)
    have S12 : Aside0 (w10.heap.size ≤ wc.heap.size) := ⟨Nat.le_trans S11.out hbc.out.size⟩
    clear hbc HB11 HBX11 HP11 HQ11 HG11 HV11 HX11 HY11 HR11 HSS HTS HEQ HSF S11
    go_wp2_with fail
    refine (HTB.out wc (Kd.C_below HDA.out HB12.out)).mono ?_
    rintro e w13 ⟨D13, e13, rfl, he13, HE13, hb⟩
    have HB13 := Aside0.mk (below_step HB12.out hb.out)
    have HBX13 := Aside0.mk (blk_below HBX12.out hb.out)
    have HP13 := Aside0.mk (blk_below HP12.out hb.out)
    have HQ13 := Aside0.mk (blk_below HQ12.out hb.out)
    have HG13 := Aside0.mk (blk_below HG12.out hb.out)
    have HV13 := Aside0.mk (Kd.R_below HV12.out hb.out)
    have HX13 := Aside0.mk (Kd.R_below HX12.out hb.out)
    have HY13 := Aside0.mk (Kd.R_below HY12.out hb.out)
    have HR13 := Aside0.mk (Kd.R_below HR12.out hb.out)
    have S13 : Aside0 (w10.heap.size ≤ w13.heap.size) := ⟨Nat.le_trans S12.out hb.out.size⟩
    clear hb HB12 HBX12 HP12 HQ12 HG12 HV12 HX12 HY12 HR12 S12
    go_wp2_with fail
    have heq := laws_eqByteS.calls k D8 e8 ds D13 e13 ds true w13 (Kd.R_reads' HY13.out).2.2 (by rw [ED.out]; exact he8) (Kd.R_reads' HE13.out).2.2 (by rw [ED.out]; exact he13) H3D.out
    rw [ED.out] at heq
    refine heq.mono ?_
    clear heq
    rintro ex w14 ⟨rfl, ⟨n14, rfl⟩⟩
    have HB14 := Aside0.mk (pw_below_drewN HB13.out n14)
    have HBX14 := Aside0.mk (blk_below HBX13.out (pw_below_drewN (Below.refl _ _) n14))
    have HP14 := Aside0.mk (blk_below HP13.out (pw_below_drewN (Below.refl _ _) n14))
    have HQ14 := Aside0.mk (blk_below HQ13.out (pw_below_drewN (Below.refl _ _) n14))
    have HG14 := Aside0.mk (blk_below HG13.out (pw_below_drewN (Below.refl _ _) n14))
    have HV14 := Aside0.mk (Kd.R_drewN HV13.out n14)
    have HX14 := Aside0.mk (Kd.R_drewN HX13.out n14)
    have HY14 := Aside0.mk (Kd.R_drewN HY13.out n14)
    have HR14 := Aside0.mk (Kd.R_drewN HR13.out n14)
    have S14 : Aside0 (w10.heap.size ≤ (w13.drewN n14).heap.size) := ⟨S13.out⟩
    clear HB13 HBX13 HP13 HQ13 HG13 HV13 HX13 HY13 HR13 HE13 S13
    generalize w13.drewN n14 = w14 at HB14 HBX14 HP14 HQ14 HG14 HV14 HX14 HY14 HR14 S14 ⊢
    go_wp2_with ((with_reducible refine gate_dst (N := 62) rfl ?_); refine load_ev (t := 32) (x := .tmp 8) (g := w6.heap.size) rfl rfl rfl Try.underlying32 rfl HQ14.out (by rw [stC_size]; kernel_rfl) ?_)
    refine (markS_calls k (fun j => w5.heap.size ≤ j ∧ j < w6.heap.size) H B6 n d6 rs mk0 m 1 (1 + (n : Int)) w w14 HB14.out (fun j hj => by have := CH.out; have := S14.out; omega) (Kd.R_lower HX14.out HB5.out.size) HM0.out).mono ?_
    rintro ex w15 ⟨rfl, _, hb, hkp⟩
    have HB15 := Aside0.mk hb
    have HBX15 := Aside0.mk (blk_kept HBX14.out hkp (fun h => by have := CH.out; omega))
    have HP15 := Aside0.mk (blk_kept HP14.out hkp (fun h => by have := CH.out; omega))
    have HG15 := Aside0.mk (blk_kept HG14.out hkp (fun h => by have := CH.out; omega))
    have HV15 := Aside0.mk (kept_R HV14.out hkp (fun j h1 h2 h3 => by have := CH.out; omega))
    have HY15 := Aside0.mk (kept_R HY14.out hkp (fun j h1 h2 h3 => by have := CH.out; omega))
    have HR15 := Aside0.mk (kept_R HR14.out hkp (fun j h1 h2 h3 => by have := CH.out; omega))
    have S15 : Aside0 (w10.heap.size ≤ w15.heap.size) := ⟨Nat.le_trans S14.out hkp.1⟩
    clear hb hkp HB14 HBX14 HP14 HQ14 HG14 HV14 HX14 HY14 HR14 S14
    go_wp2_with fail
    refine (laws_markByteS.calls k (fun j => w7.heap.size ≤ j ∧ j < w8.heap.size) (.slice D8 nd e8) ds (1 + (n : Int)) _ mk1 w w15 HB15.out (Kd.R_lower HY15.out HB7.out.size) HM1.out).mono ?_
    rintro ex w16 ⟨rfl, _, hb, hkp⟩
    have HB16 := Aside0.mk hb
    have HBX16 := Aside0.mk (blk_kept HBX15.out hkp (fun h => by have := CH.out; omega))
    have HP16 := Aside0.mk (blk_kept HP15.out hkp (fun h => by have := CH.out; omega))
    have HG16 := Aside0.mk (blk_kept HG15.out hkp (fun h => by have := CH.out; omega))
    have HV16 := Aside0.mk (kept_R HV15.out hkp (fun j h1 h2 h3 => by have := CH.out; omega))
    have HR16 := Aside0.mk (kept_R HR15.out hkp (fun j h1 h2 h3 => by have := CH.out; omega))
    have S16 : Aside0 (w10.heap.size ≤ w16.heap.size) := ⟨Nat.le_trans S15.out hkp.1⟩
    clear hb hkp HB15 HBX15 HP15 HG15 HV15 HY15 HR15 S15
    have hk0 : decide ((1 : Int) + (n : Int) + (nd : Int) < 0) = false := decide_eq_false (by omega)
    have HEE : Aside0 (Calls Try.prog 18 #[.agg #[.int .i64 V.a, .int .i64 V.b, .int .i64 V.c, .int .i64 V.d, .int .i64 V.e, .int .i64 V.f, .int .i64 V.g, .int .i64 V.h, .slice Bg r.length dg, .int .i64 m'], .agg #[.int .i64 V.a, .int .i64 V.b, .int .i64 V.c, .int .i64 V.d, .int .i64 V.e, .int .i64 V.f, .int .i64 V.g, .int .i64 V.h, .slice Bv r.length dv, .int .i64 m']] w16 fun e w' => e = .returned (.bool true) ∧ Below w16.heap.size w16 w') := ⟨eqS_calls k V Bg r.length dg Bv dv r m' w16 (Kd.R_reads' HR16.out).2.2 (Kd.R_reads' HV16.out).2.2 rfl (Kd.R_reads' HR16.out).2.1 (Kd.R_reads' HV16.out).2.1 HRR.out⟩
    obtain ⟨qa0, qa1, qa2, qa3, qa4, qa5, qa6, qa7, qa8, qa9⟩ := blk_facts HG16.out
    obtain ⟨qb0, qb1, qb2, qb3, qb4, qb5, qb6, qb7, qb8, qb9⟩ := blk_facts HP16.out
    go_wp2_with fail
    refine HEE.out.mono ?_
    rintro ex w17 ⟨rfl, hb⟩
    have HB17 := Aside0.mk (below_step HB16.out hb)
    have HBX17 := Aside0.mk (blk_below HBX16.out hb)
    have HP17 := Aside0.mk (blk_below HP16.out hb)
    have HG17 := Aside0.mk (blk_below HG16.out hb)
    have HV17 := Aside0.mk (Kd.R_below HV16.out hb)
    have HR17 := Aside0.mk (Kd.R_below HR16.out hb)
    have S17 : Aside0 (w10.heap.size ≤ w17.heap.size) := ⟨Nat.le_trans S16.out hb.size⟩
    clear hb HB16 HBX16 HP16 HG16 HV16 HR16 S16 HEE qa0 qa1 qa2 qa3 qa4 qa5 qa6 qa7 qa8 qa9 qb0 qb1 qb2 qb3 qb4 qb5 qb6 qb7 qb8 qb9
    go_wp2_with ((with_reducible refine gate_dst (N := 81) rfl ?_); refine load_ev (t := 32) (x := .tmp 10) (g := w9.heap.size) rfl rfl rfl Try.underlying32 rfl HG17.out (by rw [stC_size]; kernel_rfl) ?_)
    refine (markS_calls k (fun j => w8.heap.size ≤ j ∧ j < w9.heap.size) V Bg r.length dg r mr m' 1 (1 + (r.length : Int)) w w17 HB17.out (fun j hj => by have := CH.out; have := S17.out; omega) (Kd.R_lower HR17.out HB8.out.size) HM2.out).mono ?_
    rintro ex w18 ⟨rfl, hr, hb, hkp⟩
    have HB18 := Aside0.mk hb
    have HBX18 := Aside0.mk (blk_kept HBX17.out hkp (fun h => by have := CH.out; omega))
    have HP18 := Aside0.mk (blk_kept HP17.out hkp (fun h => by have := CH.out; omega))
    have HG18 := Aside0.mk (blk_kept HG17.out hkp (fun h => by have := CH.out; omega))
    have HV18 := Aside0.mk (kept_R HV17.out hkp (fun j h1 h2 h3 => by have := CH.out; omega))
    have HCC : Aside0 (KB.C w18 Bg r.length mr ∧ r.length ≤ dg) := ⟨by
      have h := Kd.R_reads' hr
      rw [HML.out] at h
      exact ⟨h.2.2, h.2.1⟩⟩
    clear hr hb hkp HB17 HBX17 HP17 HG17 HV17 HR17 S17
    have HHE : Aside0 (∀ w : World, KB.C w Bg r.length mr → Calls Try.prog 20 #[.agg (stC V.l (.slice Bg r.length dg) m'), .int .i64 1] w fun e w' => e = .returned (.int .i64 ((1 + r.length : Nat) : Int)) ∧ Below w.heap.size w w') := ⟨fun w h => heldS_calls k V Bg r.length dg mr m' 1 (1 + r.length) w h HML.out HCC.out.2 (by rw [HH.out]; simp)⟩
    have hln : (((1 + r.length : Nat) : Int) != 1 + (r.length : Int)) = false := by simp
    go_wp2_with ((with_reducible refine gate_dst (N := 84) rfl ?_); refine load_ev (t := 32) (x := .tmp 10) (g := w9.heap.size) rfl rfl rfl Try.underlying32 rfl HG18.out (by rw [stC_size]; kernel_rfl) ?_)
    refine (HHE.out w18 HCC.out.1).mono ?_
    rintro ex w19 ⟨rfl, hb⟩
    have HB19 := Aside0.mk (below_step HB18.out hb)
    have HBX19 := Aside0.mk (blk_below HBX18.out hb)
    have HP19 := Aside0.mk (blk_below HP18.out hb)
    have HG19 := Aside0.mk (blk_below HG18.out hb)
    have HV19 := Aside0.mk (Kd.R_below HV18.out hb)
    have HC19 := Aside0.mk (Kd.C_below HCC.out.1 hb)
    clear hb HB18 HBX18 HP18 HG18 HV18 HCC
    go_wp2_with ((with_reducible refine gate_dst (N := 93) rfl ?_); refine load_ev (t := 30) (x := .tmp 2) (g := w.heap.size) rfl rfl rfl Try.underlying30 rfl HBX19.out (by rw [stC_size]; kernel_rfl) ?_)
    refine (toS_calls k H A n c rs m w19 (Kd.C_below HC.out HB19.out) EN.out hc H2.out).mono ?_
    rintro e w20 ⟨B20, d20, rfl, hd20, HX20, hb⟩
    have HB20 := Aside0.mk (below_step HB19.out hb.out)
    have HP20 := Aside0.mk (blk_below HP19.out hb.out)
    have HG20 := Aside0.mk (blk_below HG19.out hb.out)
    have HV20 := Aside0.mk (Kd.R_below HV19.out hb.out)
    have HC20 := Aside0.mk (Kd.C_below HC19.out hb.out)
    clear hb HB19 HBX19 HP19 HG19 HV19 HC19
    go_wp2_with fail
    refine (HTB.out w20 (Kd.C_below HDA.out HB20.out)).mono ?_
    rintro e w21 ⟨D21, e21, rfl, he21, HY21, hb⟩
    have HB21 := Aside0.mk (below_step HB20.out hb.out)
    have HP21 := Aside0.mk (blk_below HP20.out hb.out)
    have HG21 := Aside0.mk (blk_below HG20.out hb.out)
    have HV21 := Aside0.mk (Kd.R_below HV20.out hb.out)
    have HC21 := Aside0.mk (Kd.C_below HC20.out hb.out)
    have HX21 := Aside0.mk (Kd.R_below HX20.out hb.out)
    clear hb HB20 HP20 HG20 HV20 HC20 HX20
    go_wp2_with fail
    refine (HIF.out w21 B20 D21 d20 e21 (HCX.out HX21.out) hd20 (HCD.out HY21.out)).mono ?_
    rintro e w22 ⟨Bh, dh, rfl, hr, hb⟩
    have HB22 := Aside0.mk (below_step HB21.out hb)
    have HP22 := Aside0.mk (blk_below HP21.out hb)
    have HG22 := Aside0.mk (blk_below HG21.out hb)
    have HV22 := Aside0.mk (Kd.R_below HV21.out hb)
    have HC22 := Aside0.mk (Kd.C_below HC21.out hb)
    have HE22 := Aside0.mk hr
    have hs22 : w4.heap.size < w22.heap.size := blk_lt HP22.out
    have hs22g : w9.heap.size < w22.heap.size := blk_lt HG22.out
    clear hb hr HB21 HP21 HG21 HV21 HC21 HX21 HY21
    go_wp2_with ((with_reducible refine gate_store (t := 32) (p := 15) (v := .tmp 98) rfl ?_); refine store_row (t := 32) (p := 15) (y := .tmp 98) (g := w22.heap.size) (c' := stC V.l (.slice Bh r.length dh) m') rfl rfl rfl rfl rfl (heap_alloc_last _ _) (by rw [stC_size]; kernel_rfl) (by rw [stC_size]; rfl) (stC_one _ _ _ _ _) ?_; intro w23 hw23 ho23 hB23; refine halt_ ?_)
    unfold Halt_
    have HQ23 := Aside0.mk hw23
    have HP23 : Aside0 (w23.heap[w4.heap.size]? = some (.cells (stC V.l (.slice Bv r.length dv) m') 32 (0, 0))) := ⟨(ho23 _ (by omega)).trans (blk_alloc HP22.out _)⟩
    have HG23 : Aside0 (w23.heap[w9.heap.size]? = some (.cells (stC V.l (.slice Bg r.length dg) m') 32 (0, 0))) := ⟨(ho23 _ (by omega)).trans (blk_alloc HG22.out _)⟩
    have hB := (below_alloc (Below.refl w22.heap.size w22) (.cells #[.int .i64 0, .int .i64 0, .int .i64 0, .int .i64 0, .int .i64 0, .int .i64 0, .int .i64 0, .int .i64 0, .slice none 0 0, .int .i64 0] 32)).trans (hB23 w22.heap.size (Nat.le_refl _))
    have HB23 := Aside0.mk (below_step HB22.out hB)
    have HV23 := Aside0.mk (Kd.R_below HV22.out hB)
    have HE23 := Aside0.mk (Kd.R_below HE22.out hB)
    have HC23 := Aside0.mk (Kd.C_below HC22.out hB)
    clear hw23 ho23 hB23 hB HB22 HP22 HG22 HV22 HC22 HE22 hs22 hs22g
    go_wp2_with (first | ((with_reducible refine gate_dst (N := 100) rfl ?_); refine load_ev (t := 32) (x := .tmp 15) (g := w22.heap.size) rfl rfl rfl Try.underlying32 rfl HQ23.out (by rw [stC_size]; kernel_rfl) ?_) | ((with_reducible refine gate_dst (N := 101) rfl ?_); refine load_ev (t := 32) (x := .tmp 6) (g := w4.heap.size) rfl rfl rfl Try.underlying32 rfl HP23.out (by rw [stC_size]; kernel_rfl) ?_))
    refine (eqS_calls k V Bh r.length dh Bv dv r m' w23 (Kd.R_reads' HE23.out).2.2 (Kd.R_reads' HV23.out).2.2 rfl (Kd.R_reads' HE23.out).2.1 (Kd.R_reads' HV23.out).2.1 HRR.out).mono ?_
    rintro ex w24 ⟨rfl, hb⟩
    have HB24 := Aside0.mk (below_step HB23.out hb)
    have HG24 := Aside0.mk (blk_below HG23.out hb)
    have HC24 := Aside0.mk (Kd.C_below HC23.out hb)
    clear hb HB23 HQ23 HP23 HG23 HV23 HE23 HC23
    go_wp2_with ((with_reducible refine gate_dst (N := 109) rfl ?_); refine load_ev (t := 32) (x := .tmp 10) (g := w9.heap.size) rfl rfl rfl Try.underlying32 rfl HG24.out (by rw [stC_size]; kernel_rfl) ?_)
    refine (HHE.out w24 HC24.out).mono ?_
    rintro ex w25 ⟨rfl, hb⟩
    have HB25 := Aside0.mk (below_step HB24.out hb)
    clear hb
    go_wp2
    go_ret
    exact ⟨rfl, HB25.out⟩
end Go.Proofs.Ytgfhbkhbnmgogaa.GFnExactFeed.Hand
